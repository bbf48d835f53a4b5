/- Joined texts: Acts, EndActs, DoP. -/
import Derived.Test.YtdbgoekemffimaaSRest
/- Rows of acts: in memory, compared, marked. -/
namespace Go.Proofs.Ytdbgoekemffimaa
set_option linter.unusedVariables false
set_option linter.unusedSimpArgs false
open Go.ChangeShapes Go.WideShapes Go.ChangeAt Go.RowKit

def flatA (aa : List ActD) : List Int := aa.flatMap fun a => [a.kind, a.number]
theorem flatA_cons (a : ActD) (aa : List ActD) : flatA (a :: aa) = a.kind :: a.number :: flatA aa := rfl
theorem flatA_append (aa bs : List ActD) : flatA (aa ++ bs) = flatA aa ++ flatA bs := by simp [flatA]
theorem flatA_len (aa : List ActD) : (flatA aa).length = aa.length * 2 := by
  induction aa with
  | nil => rfl
  | cons a aa ih => rw [flatA_cons]; simp only [List.length_cons, ih]; omega
theorem flatA_at (aa : List ActD) (i : Nat) (a : ActD) (h : aa[i]? = some a) : (flatA aa)[i * 2]? = some a.kind ∧ (flatA aa)[i * 2 + 1]? = some a.number := by
  induction aa generalizing i with
  | nil => simp at h
  | cons x aa ih =>
    rw [flatA_cons]
    cases i with
    | zero => simp at h; subst h; exact ⟨rfl, rfl⟩
    | succ i =>
      simp only [List.getElem?_cons_succ] at h
      obtain ⟨h1, h2⟩ := ih i h
      rw [show (i + 1) * 2 = i * 2 + 1 + 1 by omega]
      simp only [List.getElem?_cons_succ]
      exact ⟨h1, h2⟩
/-- a row of acts of the call's own -/
def rActs (v : Value) (aa : List ActD) : HRes := rRow 113 2 v aa.length (ints (flatA aa))
/-- a row of acts that is read -/
def RdA (w : World) (B : Nat) (A : Option Addr) (n c : Nat) (aa : List ActD) : Prop := aa.length = n ∧ RdRow w B 2 A n c (ints (flatA aa))
theorem RdA.get {w : World} {B n c i : Nat} {A : Option Addr} {aa : List ActD} (h : RdA w B A n c aa) (hi : i < n) : ∃ b off a, A = some ⟨b, off, none⟩ ∧ b < B ∧ aa[i]? = some a ∧ w.cell? ⟨b, off + i * 2, none⟩ = some (.int .i64 a.kind) ∧ w.cell? ⟨b, off + i * 2 + 1, none⟩ = some (.int .i64 a.number) := by
  obtain ⟨b, off, e, hb, hc⟩ := h.2.at_ (by omega)
  have hl := h.1
  have ha : aa[i]? = some (aa[i]'(by omega)) := List.getElem?_eq_getElem _
  obtain ⟨h1, h2⟩ := flatA_at aa i _ ha
  refine ⟨b, off, _, e, hb, ha, hc (i * 2) _ ?_, ?_⟩
  · unfold ints; rw [List.getElem?_map, h1]; rfl
  · rw [Nat.add_assoc]
    refine hc (i * 2 + 1) _ ?_
    unfold ints; rw [List.getElem?_map, h2]; rfl
theorem RdA.up {w w' : World} {A : Option Addr} {n c : Nat} {aa : List ActD} (h : RdA w w.heap.size A n c aa) (hb : Below w.heap.size w w') : RdA w' w'.heap.size A n c aa := ⟨h.1, h.2.up hb⟩
theorem St.rdA {w W : World} {L : List HRes} (h : St w W L) (i : Nat) {v : Value} {aa : List ActD} (hi : L[i]? = some (rActs v aa)) : ∃ A c, v = .slice A aa.length c ∧ RdA W W.heap.size A aa.length c aa := by
  obtain ⟨A, c, hv, hr⟩ := h.rdRow i hi
  exact ⟨A, c, hv, rfl, hr⟩
theorem St.rdA' {w W : World} {L : List HRes} (h : St w W L) (i : Nat) {A : Option Addr} {n c : Nat} {aa : List ActD} (hi : L[i]? = some (rActs (.slice A n c) aa)) : RdA W W.heap.size A n c aa := by
  obtain ⟨A', c', hv, hr⟩ := h.rdA i hi
  simp only [Value.slice.injEq] at hv
  obtain ⟨rfl, rfl, rfl⟩ := hv
  exact hr
def markAS (k n : Nat) : List ActD := (List.range n).map fun i => ⟨((k + 2 * i : Nat) : Int), ((k + 2 * i + 1 : Nat) : Int)⟩
theorem markAS_len (k n : Nat) : (markAS k n).length = n := by simp [markAS]
theorem markAS_at (k n i : Nat) (h : i < n) : (markAS k n)[i]? = some ⟨((k + 2 * i : Nat) : Int), ((k + 2 * i + 1 : Nat) : Int)⟩ := by simp [markAS, h]
/-- the first i marked -/
def mixA (k : Nat) (aa : List ActD) (i : Nat) : List ActD := markAS k i ++ aa.drop i
theorem mixA_len (k : Nat) (aa : List ActD) (i : Nat) (h : i ≤ aa.length) : (mixA k aa i).length = aa.length := by simp [mixA, markAS_len]; omega
theorem mixA_zero (k : Nat) (aa : List ActD) : mixA k aa 0 = aa := by simp [mixA, markAS]
theorem mixA_done (k : Nat) (aa : List ActD) : mixA k aa aa.length = markAS k aa.length := by simp [mixA]
theorem mixA_step (k : Nat) (aa : List ActD) (i : Nat) (h : i < aa.length) : ((ints (flatA (mixA k aa i))).set (i * 2) (.int .i64 ((k + 2 * i : Nat) : Int))).set (i * 2 + 1) (.int .i64 ((k + 2 * i + 1 : Nat) : Int)) = ints (flatA (mixA k aa (i + 1))) := by
  have e1 : mixA k aa i = markAS k i ++ aa[i] :: aa.drop (i + 1) := by unfold mixA; rw [List.drop_eq_getElem_cons h]
  have e2 : mixA k aa (i + 1) = markAS k i ++ ⟨((k + 2 * i : Nat) : Int), ((k + 2 * i + 1 : Nat) : Int)⟩ :: aa.drop (i + 1) := by
    unfold mixA
    have : markAS k (i + 1) = markAS k i ++ [⟨((k + 2 * i : Nat) : Int), ((k + 2 * i + 1 : Nat) : Int)⟩] := by simp [markAS, List.range_succ]
    rw [this]; simp
  have hl : (flatA (markAS k i)).length = i * 2 := by rw [flatA_len, markAS_len]
  rw [ints_set, ints_set, e1, e2, flatA_append, flatA_append, flatA_cons, flatA_cons]
  congr 1
  rw [List.set_append_right _ _ (by omega), List.set_append_right _ _ (by omega), hl, Nat.sub_self, show i * 2 + 1 - i * 2 = 1 by omega]
  rfl
end Go.Proofs.Ytdbgoekemffimaa

/- EndActs, of the program and of the reference. Printed by gen_endacts.py. -/
namespace Go.Proofs.Ytdbgoekemffimaa
set_option linter.unusedVariables false
set_option linter.unusedSimpArgs false
open Go.ChangeShapes Go.WideShapes Go.ChangeAt Go.RowKit

def backs (b : BookD) : Bool := decide (0 < b.done.length) && ((restFor b).isNone || decide (40 < b.done.length + ((restFor b).getD []).length))
def endOf (b : BookD) : Int := if backs b then b.order.start else b.state
def endActs (b : BookD) : List ActD :=
  if bookOk b && (planFor b.order).isSome then (if backs b then [⟨1, b.done.length⟩] else []) ++ (if evalCode b.order.goal (endOf b).toNat then [] else [⟨3, 0⟩]) else []
theorem restFor_le {b : BookD} {r : List Int} (h : restFor b = some r) : r.length ≤ 31 := by
  unfold restFor at h
  split at h
  · exact (planFor_some h).2.2.1
  · cases h
theorem endActs_no (b : BookD) (h : bookOk b = false) : endActs b = [] := by unfold endActs; rw [h]; rfl
theorem endActs_cannot (b : BookD) (h : (planFor b.order).isSome = false) : endActs b = [] := by unfold endActs; rw [h]; simp
theorem endActs_go {b : BookD} {bk ev : Bool} (h : bookOk b = true) (h' : (planFor b.order).isSome = true) (hb : backs b = bk) (he : evalCode b.order.goal (if bk then b.order.start else b.state).toNat = ev) : endActs b = (if bk then [⟨1, b.done.length⟩] else []) ++ (if ev then [] else [⟨3, 0⟩]) := by
  subst hb he
  unfold endActs endOf
  rw [h, h']; rfl
theorem endActs_len (b : BookD) : (endActs b).length ≤ 2 := by
  unfold endActs
  split
  · simp only [List.length_append]; split <;> split <;> simp
  · simp
theorem backs_zero {b : BookD} (h : b.done.length = 0) : backs b = false := by unfold backs; simp [h]
theorem backs_none {b : BookD} (h : 0 < b.done.length) (hr : restFor b = none) : backs b = true := by unfold backs; simp [h, hr]
theorem backs_far {b : BookD} {r : List Int} (h : 0 < b.done.length) (hr : restFor b = some r) (hl : 40 < b.done.length + r.length) : backs b = true := by unfold backs; simp [h, hr, hl]
theorem backs_near {b : BookD} {r : List Int} (hr : restFor b = some r) (hl : ¬ 40 < b.done.length + r.length) : backs b = false := by unfold backs; simp [hr]; omega
theorem bookOk_parts {b : BookD} (h : bookOk b = true) : taskOk b.order = true ∧ b.done.length ≤ 40 ∧ (0 ≤ b.state ∧ b.state < 32) ∧ planRun b.order b.order.start b.done = b.state := by
  unfold bookOk at h
  simp only [Bool.and_eq_true, decide_eq_true_eq, beq_iff_eq] at h
  exact ⟨h.1.1.1, h.1.1.2, (stIn_iff _).1 h.1.2, h.2⟩
theorem rActs_nil (w W : World) (h : Below w.heap.size w W) : St w W [rActs (.slice none 0 0) []] :=
  ⟨h, [[]], rfl, fun i R F hR hF => by
    match i with
    | 0 =>
      injection hR with hR; injection hF with hF; subst hR hF
      exact ⟨⟨World.ownsRow_nil W 0 _ 2, rfl⟩, by simp⟩
    | i + 1 => simp at hR, by simp⟩
theorem St.newA (W : World) (g : Nat) (hg : g = W.heap.size) : St W (W.alloc (.cells #[] 113)) [rActs (.slice (some ⟨g, 0, none⟩) 0 0) []] :=
  (St.new1At W g #[] 113 hg).see fun F h _ => by
    obtain ⟨h1, rfl⟩ := h
    exact ⟨⟨by simp [flatA], .inr ⟨g, 0, #[], rfl, Nat.zero_le _, h1, Nat.le_refl _, by unfold maxLen; omega, rfl, rfl⟩⟩, rfl⟩
theorem St.ownA {w W : World} {L : List HRes} (h : St w W L) (i : Nat) {v : Value} {aa : List ActD} (hi : L[i]? = some (rActs v aa)) : W.ownsRow 0 113 2 v aa.length (Go.Proofs.Ytdbgoekemffimaa.ints (flatA aa)) := by
  obtain ⟨F, h1, -⟩ := h.get i hi
  exact h1.1
theorem St.appA {w W W' : World} {L : List HRes} (h : St w W L) (i : Nat) {v v' : Value} {aa bs : List ActD} {n : Nat} (hi : L[i]? = some (rActs v aa)) (hn : n = aa.length + bs.length) (hown : W'.ownsRow 0 113 2 v' n (Go.Proofs.Ytdbgoekemffimaa.ints (flatA aa) ++ Go.Proofs.Ytdbgoekemffimaa.ints (flatA bs)))
    (hg : W.grownBy W' v.ownBlock) (hat : v'.ownBlock = v.ownBlock ∨ v'.ownBlock = some W.heap.size) : St w W' (L.set i (rActs v' (aa ++ bs))) :=
  h.mod i hi fun F h1 _ => ⟨v'.ownBlock.toList, ⟨by subst hn; rw [List.length_append, flatA_append, show ∀ xs ys : List Int, Go.Proofs.Ytdbgoekemffimaa.ints (xs ++ ys) = Go.Proofs.Ytdbgoekemffimaa.ints xs ++ Go.Proofs.Ytdbgoekemffimaa.ints ys from fun xs ys => by simp [Go.Proofs.Ytdbgoekemffimaa.ints]]; exact hown, rfl⟩, fun b hb => by
    rcases hat with e | e
    · left; rw [h1.2, ← e]; exact hb
    · right; rw [e] at hb; simp at hb; omega, by rw [h1.2]; exact Only.of_grown hg⟩
theorem RdTM.goalRd {M B : Nat} {w : World} {s : Int} {G : Option Addr} {gn gc : Nat} {y : Value} {t : TaskD} (h : RdTM M w B (.agg #[.int .i64 s, .slice G gn gc, y]) t) : RdI .i64 w B G gn gc t.goal := by
  obtain ⟨A, n, c, A', n', c', e, h1, h2, h3, h4⟩ := h
  simp only [Value.agg.injEq, Array.mk.injEq, List.cons.injEq, Value.slice.injEq, and_true] at e
  obtain ⟨-, ⟨rfl, rfl, rfl⟩, -⟩ := e
  exact h1
end Go.Proofs.Ytdbgoekemffimaa

/- Plain law: what an act does to a book (bookDo), and a row of acts (bookRun); no program in sight. -/
namespace Go.Proofs.Ytdbgoekemffimaa
set_option linter.unusedVariables false
set_option linter.unusedSimpArgs false

def zeroB : BookD := ⟨⟨0, [], []⟩, [], 0⟩
/-- the deeds that were done behind an act, if it can be done -/
def doneAfter (b : BookD) (a : ActD) : Option (List Int) :=
  if a.kind = 0 then (if b.done.length < 40 ∧ a.number ∈ deedsMay b.order b.state then some (b.done ++ [a.number]) else none)
  else if a.kind = 1 then (if 1 ≤ a.number ∧ a.number ≤ b.done.length then some (b.done.take (b.done.length - a.number.toNat)) else none)
  else if a.kind = 2 then (if a.number = 0 ∧ ((planShort b.order b.done).getD []).length < b.done.length then some ((planShort b.order b.done).getD []) else none)
  else if a.kind = 3 then (if a.number = 0 ∧ 0 < ((restFor b).getD []).length ∧ b.done.length + ((restFor b).getD []).length ≤ 40 then some (b.done ++ (restFor b).getD []) else none)
  else none
def withDone (b : BookD) (d : List Int) : BookD := ⟨b.order, d, planRun b.order b.order.start d⟩
def bookDo (b : BookD) (a : ActD) : BookD := if bookOk b then (match doneAfter b a with | some d => withDone b d | none => b) else zeroB
def bookDid (b : BookD) (a : ActD) : Bool := bookOk b && (doneAfter b a).isSome

theorem withDone_self {b : BookD} (h : bookOk b = true) : withDone b b.done = b := by
  obtain ⟨-, -, -, h4⟩ := bookOk_parts h
  unfold withDone; rw [h4]
theorem bookOk_mk {o : TaskD} {d : List Int} (h : 0 ≤ planRun o o.start d) : bookOk ⟨o, d, planRun o o.start d⟩ = true := by
  obtain ⟨h1, h2, h3, h4⟩ := (planRun_bd o o.start d).1 h
  unfold bookOk
  simp only [h1, decide_eq_true h3, Bool.true_and, beq_self_eq_true, Bool.and_true]
  exact (stIn_iff _).2 ⟨h, h4⟩
/-- a plan with one more part -/
theorem planRun_app {t : TaskD} {p q : List Int} (h : 0 ≤ planRun t t.start p) (hl : p.length + q.length ≤ 40) : planRun t t.start (p ++ q) = planRun t (planRun t t.start p) q := by
  obtain ⟨h1, h2, h3, -⟩ := (planRun_bd t t.start p).1 h
  have := (planRun_part h p.length).2 q h3 (by rw [Nat.min_self]; omega)
  rwa [List.take_of_length_le (Nat.le_refl _)] at this
theorem planRun_one {t : TaskD} {s x : Int} (h : x ∈ deedsMay t s) : 0 ≤ planRun t s [x] := by
  obtain ⟨s', hs'⟩ := deedsMay_step h
  unfold deedsMay at h
  split at h
  · next hh =>
    simp only [Bool.and_eq_true] at hh
    unfold planRun
    rw [if_pos ⟨hh.1, hh.2, by simp⟩]
    simp only [runP, hs', Option.bind_some, opt]
    omega
  · cases h
theorem planFor_run {t : TaskD} {p : List Int} (h : planFor t = some p) : p.length ≤ 31 ∧ 0 ≤ planRun t t.start p ∧ evalCode t.goal (planRun t t.start p).toNat = true := by
  obtain ⟨h1, -, h3, s, h4, h5⟩ := planFor_some h
  have e : planRun t t.start p = (s : Nat) := by
    unfold planRun
    rw [if_pos ⟨h1, (stIn_iff _).2 (taskOk_parts t h1).1, by omega⟩, h4]; rfl
  refine ⟨h3, by rw [e]; omega, ?_⟩
  rw [e, Int.toNat_natCast]
  exact h5.2
theorem taskOk_from {b : BookD} (h : taskOk b.order = true) (hs : 0 ≤ b.state ∧ b.state < 32) : taskOk (taskFrom b) = true := by
  unfold taskOk taskFrom at *
  simp only [Bool.and_eq_true] at h ⊢
  exact ⟨⟨⟨(stIn_iff _).2 hs, h.1.1.2⟩, h.1.2⟩, h.2⟩
theorem planRun_from {b : BookD} (h : taskOk b.order = true) (hs : 0 ≤ b.state ∧ b.state < 32) (p : List Int) : planRun (taskFrom b) b.state p = planRun b.order b.state p := by
  have hk := taskOk_from h hs
  have e : ∀ (p : List Int) (s : Nat), runP (taskFrom b) s p = runP b.order s p := fun p => by
    induction p with
    | nil => intro s; rfl
    | cons k p ih =>
      intro s
      simp only [runP]
      rw [show stepP (taskFrom b) s k = stepP b.order s k from rfl]
      congr 1
      funext s'
      exact ih s'
  unfold planRun
  simp only [hk, h, e]
theorem restFor_run {b : BookD} {r : List Int} (h : restFor b = some r) : bookOk b = true ∧ r.length ≤ 31 ∧ 0 ≤ planRun b.order b.state r ∧ evalCode b.order.goal (planRun b.order b.state r).toNat = true := by
  cases hb : bookOk b with
  | false => rw [restFor_no b hb] at h; cases h
  | true =>
    rw [restFor_yes b hb] at h
    obtain ⟨h1, -, h3, -⟩ := bookOk_parts hb
    obtain ⟨k1, k2, k3⟩ := planFor_run h
    rw [show (taskFrom b).start = b.state from rfl, planRun_from h1 h3] at k2 k3
    exact ⟨rfl, k1, k2, k3⟩
theorem planShort_ok {b : BookD} (h : bookOk b = true) : planShort b.order b.done = some (shortN b.order b.done 41) := by
  obtain ⟨-, -, h3, h4⟩ := bookOk_parts h
  unfold planShort
  rw [if_neg (by omega)]
/-- what was done behind an act may be done -/
theorem doneAfter_run {b : BookD} {a : ActD} {d : List Int} (hb : bookOk b = true) (h : doneAfter b a = some d) : 0 ≤ planRun b.order b.order.start d := by
  obtain ⟨h1, h2, h3, h4⟩ := bookOk_parts hb
  unfold doneAfter at h
  split at h
  · split at h
    · next hc =>
      injection h with h; subst h
      rw [planRun_app (by omega) (by simp; omega), h4]
      exact planRun_one hc.2
    · cases h
  · split at h
    · split at h
      · injection h with h; subst h
        exact (planRun_part (by omega) _).1
      · cases h
    · split at h
      · split at h
        · injection h with h; subst h
          rw [planShort_ok hb, Option.getD_some, shortN_run (by omega)]; omega
        · cases h
      · split at h
        · split at h
          · next hc =>
            injection h with h; subst h
            cases hr : restFor b with
            | none => rw [hr] at hc; simp at hc
            | some r =>
              rw [hr] at hc
              simp only [Option.getD_some] at hc ⊢
              rw [planRun_app (by omega) (by omega), h4]
              exact (restFor_run hr).2.2.1
          · cases h
        · cases h
theorem doneAfter_len {b : BookD} {a : ActD} {d : List Int} (hb : bookOk b = true) (h : doneAfter b a = some d) : d.length ≤ 40 := ((planRun_bd _ _ _).1 (doneAfter_run hb h)).2.2.1
theorem withDone_ok {b : BookD} {a : ActD} {d : List Int} (hb : bookOk b = true) (h : doneAfter b a = some d) : bookOk (withDone b d) = true := bookOk_mk (doneAfter_run hb h)
theorem bookDo_ok {b : BookD} (a : ActD) (hb : bookOk b = true) : bookOk (bookDo b a) = true := by
  unfold bookDo
  rw [if_pos hb]
  cases h : doneAfter b a with
  | none => exact hb
  | some d => exact withDone_ok hb h
theorem bookDo_order {b : BookD} (a : ActD) (hb : bookOk b = true) : (bookDo b a).order = b.order := by
  unfold bookDo
  rw [if_pos hb]
  cases h : doneAfter b a with
  | none => rfl
  | some d => rfl
theorem bookDo_some {b : BookD} {a : ActD} {d : List Int} (hb : bookOk b = true) (h : doneAfter b a = some d) : bookDo b a = withDone b d ∧ bookDid b a = true := by
  unfold bookDo bookDid; rw [if_pos hb, hb, h]; exact ⟨rfl, rfl⟩
theorem bookDo_none {b : BookD} {a : ActD} (hb : bookOk b = true) (h : doneAfter b a = none) : bookDo b a = b ∧ bookDid b a = false := by
  unfold bookDo bookDid; rw [if_pos hb, hb, h]; exact ⟨rfl, rfl⟩
theorem bookDo_bad {b : BookD} {a : ActD} (hb : bookOk b = false) : bookDo b a = zeroB ∧ bookDid b a = false := by
  unfold bookDo bookDid; rw [if_neg (by rw [hb]; simp), hb]; exact ⟨rfl, rfl⟩

/-! ### many acts -/
def runB : BookD → List ActD → BookD × Nat
  | b, [] => (b, 0)
  | b, a :: as' => let r := runB (bookDo b a) as'; (r.1, r.2 + (if bookDid b a then 1 else 0))
/-- what is done up to the act k -/
def runK (b : BookD) (aa : List ActD) (k : Nat) : BookD × Nat := runB b (aa.take k)
def bookRun (b : BookD) (aa : List ActD) : BookD × Nat := if bookOk b && decide (aa.length ≤ 40) then runB b aa else (zeroB, 0)
theorem runB_append (b : BookD) (p q : List ActD) : runB b (p ++ q) = ((runB (runB b p).1 q).1, (runB b p).2 + (runB (runB b p).1 q).2) := by
  induction p generalizing b with
  | nil => simp [runB]
  | cons a p ih =>
    simp only [List.cons_append, runB]
    rw [ih]
    simp only [Prod.mk.injEq, true_and]
    omega
theorem runK_zero (b : BookD) (aa : List ActD) : runK b aa 0 = (b, 0) := by simp [runK, runB]
theorem runK_step {b : BookD} {aa : List ActD} {k : Nat} {a : ActD} (h : aa[k]? = some a) : runK b aa (k + 1) = (bookDo (runK b aa k).1 a, (runK b aa k).2 + (if bookDid (runK b aa k).1 a then 1 else 0)) := by
  obtain ⟨h1, h2⟩ := List.getElem?_eq_some_iff.1 h
  unfold runK
  rw [List.take_succ_eq_append_getElem h1, h2, runB_append]
  simp [runB]
theorem runK_all (b : BookD) (aa : List ActD) {k : Nat} (h : aa.length ≤ k) : runK b aa k = runB b aa := by unfold runK; rw [List.take_of_length_le h]
theorem runB_ok {b : BookD} (aa : List ActD) (hb : bookOk b = true) : bookOk (runB b aa).1 = true ∧ (runB b aa).1.order = b.order ∧ (runB b aa).2 ≤ aa.length := by
  induction aa generalizing b with
  | nil => exact ⟨hb, rfl, Nat.le_refl _⟩
  | cons a aa ih =>
    obtain ⟨h1, h2, h3⟩ := ih (bookDo_ok a hb)
    simp only [runB, List.length_cons]
    refine ⟨h1, h2.trans (bookDo_order a hb), ?_⟩
    split <;> omega
theorem runK_ok {b : BookD} (aa : List ActD) (k : Nat) (hb : bookOk b = true) : bookOk (runK b aa k).1 = true ∧ (runK b aa k).1.order = b.order ∧ (runK b aa k).2 ≤ aa.length := by
  obtain ⟨h1, h2, h3⟩ := runB_ok (aa.take k) hb
  exact ⟨h1, h2, Nat.le_trans h3 (by simp; omega)⟩
end Go.Proofs.Ytdbgoekemffimaa
