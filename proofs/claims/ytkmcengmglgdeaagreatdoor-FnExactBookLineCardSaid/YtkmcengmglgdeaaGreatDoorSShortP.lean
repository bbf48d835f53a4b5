/- Joined texts: ShortP, DoP, MayW. -/
import Derived.Test.YtkmcengmglgdeaaGreatDoorSPlanForS
import Derived.Test.YtkmcengmglgdeaaGreatDoorSBack
import Derived.Test.YtkmcengmglgdeaaGreatDoorSEndActs

namespace Go.Proofs.YtkmcengmglgdeaaGreatDoor
set_option linter.unusedVariables false
set_option linter.unusedSimpArgs false
set_option maxRecDepth 100000
set_option maxHeartbeats 8000000
def lastTo (f : Nat → Int) (a : Nat) : Nat → Nat
 | 0 => a
 | n + 1 => if n + 1 ≤ a then a else if f (n + 1) = f a then n + 1 else lastTo f a n
theorem lastTo_same (f : Nat → Int) (a : Nat) : ∀ n, n ≤ a → lastTo f a n = a := fun n h => by
 cases n with
 | zero => rfl
 | succ n => simp [lastTo, h]
theorem lastTo_at (f : Nat → Int) (a : Nat) : ∀ n, a ≤ n → a ≤ lastTo f a n ∧ lastTo f a n ≤ n ∧ f (lastTo f a n) = f a ∧ ∀ j, lastTo f a n < j → j ≤ n → f j ≠ f a := fun n => by
 induction n with
 | zero => intro h; obtain rfl : a = 0 := by omega
           exact ⟨Nat.le_refl _, Nat.le_refl _, rfl, fun j h1 h2 => by unfold lastTo at h1; omega⟩
 | succ n ih =>
  intro h
  unfold lastTo
  by_cases h1 : n + 1 ≤ a
  ·rw [if_pos h1]; exact ⟨Nat.le_refl _, h, rfl, fun j h2 h3 => by omega⟩
  ·rw [if_neg h1]
   by_cases h2 : f (n + 1) = f a
   ·rw [if_pos h2]; exact ⟨h, Nat.le_refl _, h2, fun j h3 h4 => by omega⟩
   ·rw [if_neg h2]; obtain ⟨k1, k2, k3, k4⟩ := ih (by omega); refine ⟨k1, by omega, k3, fun j h3 h4 => ?_⟩
    by_cases hj : j = n + 1
    ·subst hj; exact h2
    ·exact k4 j h3 (by omega)
theorem lastTo_eq {f : Nat → Int} {a n m : Nat} (h1 : a ≤ m) (h2 : m ≤ n) (h3 : f m = f a) (h4 : ∀ j, m < j → j ≤ n → f j ≠ f a) : lastTo f a n = m := by
 obtain ⟨k1, k2, k3, k4⟩ := lastTo_at f a n (by omega)
 rcases Nat.lt_trichotomy (lastTo f a n) m with h | h | h
 ·exact absurd h3 (k4 m h h2)
 ·exact h
 ·exact absurd k3 (h4 _ h k2)
def prun (t : TaskD) (p : List Int) (j : Nat) : Int := planRun t t.start (p.take j)
def cutAt (t : TaskD) (p : List Int) (a : Nat) : List Int := p.take a ++ p.drop (lastTo (prun t p) a p.length)
def shortN (t : TaskD) (p : List Int) : Nat → List Int
 | 0 => p
 | n + 1 => cutAt t (shortN t p n) n
def planShort (t : TaskD) (p : List Int) : Option (List Int) := if planRun t t.start p < 0 then none else some (shortN t p 41)
theorem cutAt_past (t : TaskD) (p : List Int) (a : Nat) (h : p.length ≤ a) : cutAt t p a = p := by
 unfold cutAt; rw [lastTo_same _ _ _ h, List.take_append_drop]
theorem cutAt_none (t : TaskD) (p : List Int) (a : Nat) (h : ∀ j, a < j → j ≤ p.length → prun t p j ≠ prun t p a) : cutAt t p a = p := by
 rcases Nat.lt_or_ge p.length a with h1 | h1
 ·exact cutAt_past t p a (by omega)
 ·unfold cutAt
  rw [lastTo_eq (Nat.le_refl a) h1 rfl h, List.take_append_drop]
theorem cutAt_len (t : TaskD) (p : List Int) (a : Nat) : (cutAt t p a).length ≤ p.length := by
 unfold cutAt
 rcases Nat.lt_or_ge p.length a with h1 | h1
 ·rw [lastTo_same _ _ _ (by omega)]; simp
 ·have := (lastTo_at (prun t p) a p.length h1).1
  simp; omega
theorem shortN_len (t : TaskD) (p : List Int) (n : Nat) : (shortN t p n).length ≤ p.length := by
 induction n with
 | zero => exact Nat.le_refl _
 | succ n ih => exact Nat.le_trans (cutAt_len ..) ih
theorem prun_len (t : TaskD) (p : List Int) {j : Nat} (h : p.length ≤ j) : prun t p j = planRun t t.start p := by unfold prun; rw [List.take_of_length_le h]
theorem planRun_part {t : TaskD} {s : Int} {p : List Int} (h : 0 ≤ planRun t s p) (j : Nat) : 0 ≤ planRun t s (p.take j) ∧ ∀ q, p.length ≤ 40 → q.length + min j p.length ≤ 40 → planRun t s (p.take j ++ q) = planRun t (planRun t s (p.take j)) q := by
 obtain ⟨h1, h2, h3, -⟩ := (planRun_bd t s p).1 h; have e : planRun t s p = opt (runP t s.toNat p) := if_pos ⟨h1, h2, h3⟩; rw [e] at h; obtain ⟨z, hz⟩ := opt_nonneg.1 h; have hz' := hz; rw [← List.take_append_drop j p, runP_append] at hz; obtain ⟨y, hy, hz⟩ := Option.bind_eq_some_iff.1 hz
 have ej : planRun t s (p.take j) = (y : Nat) := by
  unfold planRun
  rw [if_pos ⟨h1, h2, by simp; omega⟩, hy]; rfl
 have hs := (stIn_iff _).1 h2; have hy32 : y < 32 := runP_lt t _ _ y h1 (by omega) hy; refine ⟨by rw [ej]; omega, fun q hp hq => ?_⟩; rw [ej]
 unfold planRun
 rw [if_pos ⟨h1, h2, by simp; omega⟩, if_pos ⟨h1, (stIn_iff _).2 (by omega), by omega⟩, runP_append, hy]
 rfl
theorem prun_cut {t : TaskD} {p : List Int} (h : 0 ≤ planRun t t.start p) {a m : Nat} (ham : a ≤ m) (hm : m ≤ p.length) (e : prun t p m = prun t p a) : ∀ j, prun t (p.take a ++ p.drop m) j = if j ≤ a then prun t p j else prun t p (j - a + m) := fun j => by
 obtain ⟨h1, h2, h3, -⟩ := (planRun_bd t t.start p).1 h
 by_cases hj : j ≤ a
 ·rw [if_pos hj]
  unfold prun
  rw [List.take_append_of_le_length (by simp; omega), List.take_take, Nat.min_eq_left hj]
 ·rw [if_neg hj]; have hl : (p.take a).length = a := by simp; omega
  have e1 : (p.take a ++ p.drop m).take j = p.take a ++ (p.drop m).take (j - a) := by
   rw [List.take_append, hl, List.take_of_length_le (by omega)]
  have e2 : p.take (j - a + m) = p.take m ++ (p.drop m).take (j - a) := by
   rw [Nat.add_comm, List.take_add]
  unfold prun at e ⊢
  have hql : ((p.drop m).take (j - a)).length ≤ p.length - m := by simp; omega
  rw [e1, e2, (planRun_part h a).2 _ (by omega) (by omega), (planRun_part h m).2 _ (by omega) (by omega), e]
theorem cutAt_run {t : TaskD} {p : List Int} (h : 0 ≤ planRun t t.start p) (a : Nat) : planRun t t.start (cutAt t p a) = planRun t t.start p := by
 rcases Nat.lt_or_ge p.length a with h1 | h1
 ·rw [cutAt_past t p a (by omega)]
 ·obtain ⟨k1, k2, k3, k4⟩ := lastTo_at (prun t p) a p.length h1
  have := prun_cut h k1 k2 k3 (cutAt t p a).length
  rw [show p.take a ++ p.drop (lastTo (prun t p) a p.length) = cutAt t p a from rfl, prun_len t _ (Nat.le_refl _)] at this; rw [this]; have hl : (cutAt t p a).length = a + (p.length - lastTo (prun t p) a p.length) := by unfold cutAt; simp; omega
  by_cases hj : (cutAt t p a).length ≤ a
  ·rw [if_pos hj, show (cutAt t p a).length = a by omega, ← k3, show lastTo (prun t p) a p.length = p.length by omega, prun_len t p (Nat.le_refl _)]
  ·rw [if_neg hj, hl, prun_len t p (by omega)]
theorem shortN_run {t : TaskD} {p : List Int} (h : 0 ≤ planRun t t.start p) (n : Nat) : planRun t t.start (shortN t p n) = planRun t t.start p := by
 induction n with
 | zero => rfl
 | succ n ih => exact (cutAt_run (by rw [ih]; exact h) n).trans ih
def cleanTo (t : TaskD) (p : List Int) (a : Nat) : Prop := ∀ i, i < a → ∀ j, i < j → j ≤ p.length → prun t p j ≠ prun t p i
theorem shortN_end {t : TaskD} {p q : List Int} {a : Nat} (h : shortN t p a = q) (hq : cleanTo t q (q.length + 1)) : ∀ n, shortN t p (a + n) = q := fun n => by
 induction n with
 | zero => exact h
 | succ n ih =>
  rw [show a + (n + 1) = (a + n) + 1 by omega]; simp only [shortN]; rw [ih]; refine cutAt_none t q _ fun j h1 h2 => hq _ (by omega) j h1 h2
theorem shortN_to {t : TaskD} {p q : List Int} {a f : Nat} (h : shortN t p a = q) (hf : a ≤ f) (hc : cleanTo t q f) : shortN t p f = q := by
 obtain ⟨n, rfl⟩ := Nat.le.dest hf; clear hf
 induction n with
 | zero => exact h
 | succ n ih =>
  have := ih (fun i hi => hc i (by omega))
  rw [show a + (n + 1) = (a + n) + 1 by omega]; simp only [shortN]; rw [this]; exact cutAt_none t q _ fun j h1 h2 => hc _ (by omega) j h1 h2
theorem cut_clean {t : TaskD} {q : List Int} (h : 0 ≤ planRun t t.start q) {f l : Nat} (hfl : f < l) (hl : l ≤ q.length) (e : prun t q l = prun t q f) (hc : cleanTo t q f) (hlast : ∀ j, l < j → j ≤ q.length → prun t q j ≠ prun t q f) :
  cutAt t q f = q.take f ++ q.drop l ∧ cleanTo t (q.take f ++ q.drop l) (f + 1) := by
 have e1 : lastTo (prun t q) f q.length = l := lastTo_eq (by omega) hl e hlast; refine ⟨by unfold cutAt; rw [e1], fun i hi j hij hj => ?_⟩; have hp := prun_cut h (by omega : f ≤ l) hl e; have hlen : (q.take f ++ q.drop l).length = f + (q.length - l) := by simp; omega
 rw [hp j, hp i, if_pos (by omega : i ≤ f)]
 by_cases hjf : j ≤ f
 ·rw [if_pos hjf]; exact hc i (by omega) j hij (by omega)
 ·rw [if_neg hjf]
  by_cases hif : i = f
  ·subst hif; exact hlast _ (by omega) (by omega)
  ·exact hc i (by omega) _ (by omega) (by omega)
def mayN (ds : List DeedD) (s : Nat) (n : Nat) : List Int := ((List.range n).filter fun k => ((ds[k]?).bind (deedDo · s)).isSome).map fun k => ((k : Nat) : Int)
def deedsMay (t : TaskD) (s : Int) : List Int := if taskOk t && stIn s then mayN t.deeds s.toNat t.deeds.length else []
theorem mayN_succ (ds : List DeedD) (s n : Nat) : mayN ds s (n + 1) = mayN ds s n ++ (if ((ds[n]?).bind (deedDo · s)).isSome then [((n : Nat) : Int)] else []) := by
 unfold mayN
 rw [List.range_succ, List.filter_append, List.map_append]
 congr 1
 by_cases h : ((ds[n]?).bind (deedDo · s)).isSome = true
 ·rw [if_pos h, List.filter_cons_of_pos (by exact h)]; rfl
 ·rw [if_neg h, List.filter_cons_of_neg (by exact h)]; rfl
theorem mayN_mem {ds : List DeedD} {s n : Nat} {x : Int} : x ∈ mayN ds s n ↔ ∃ k : Nat, x = (k : Int) ∧ k < n ∧ ∃ s', (ds[k]?).bind (deedDo · s) = some s' := by
 unfold mayN
 simp only [List.mem_map, List.mem_filter, List.mem_range, Option.isSome_iff_exists]
 constructor
 ·rintro ⟨k, ⟨h1, h2⟩, rfl⟩; exact ⟨k, rfl, h1, h2⟩
 ·rintro ⟨k, rfl, h1, h2⟩; exact ⟨k, ⟨h1, h2⟩, rfl⟩
theorem mayN_len (ds : List DeedD) (s n : Nat) : (mayN ds s n).length ≤ n := by
 unfold mayN
 rw [List.length_map]; exact Nat.le_trans (List.length_filter_le ..) (by simp)
theorem deedsMay_len (t : TaskD) (s : Int) : (deedsMay t s).length ≤ 6 := by
 unfold deedsMay
 split
 ·next h =>
  simp only [Bool.and_eq_true] at h; exact Nat.le_trans (mayN_len ..) (taskOk_parts t h.1).2.2.1
 ·simp
theorem deedsMay_step {t : TaskD} {s x : Int} (h : x ∈ deedsMay t s) : ∃ s', stepP t s.toNat x = some s' := by
 unfold deedsMay at h
 split at h
 ·obtain ⟨k, rfl, h1, s', h2⟩ := mayN_mem.1 h; exact ⟨s', by unfold stepP; rw [if_pos ⟨by omega, by omega⟩, Int.toNat_natCast]; exact h2⟩
 ·cases h
theorem deedsMay_bd {t : TaskD} {s x : Int} (h : x ∈ deedsMay t s) : 0 ≤ x ∧ x < 6 := by
 have h0 := h
 unfold deedsMay at h
 split at h
 ·next hh =>
  simp only [Bool.and_eq_true] at hh
  have := (taskOk_parts t hh.1).2.2.1
  obtain ⟨k, rfl, h1, -⟩ := mayN_mem.1 h
  omega
 ·cases h
def zeroB : BookD := ⟨⟨0, [], []⟩, [], 0⟩
def doneAfter (b : BookD) (a : ActD) : Option (List Int) :=
 if a.kind = 0 then (if b.done.length < 40 ∧ a.number ∈ deedsMay b.order b.state then some (b.done ++ [a.number]) else none)
 else if a.kind = 1 then (if 1 ≤ a.number ∧ a.number ≤ b.done.length then some (b.done.take (b.done.length - a.number.toNat)) else none)
 else if a.kind = 2 then (if a.number = 0 ∧ ((planShort b.order b.done).getD []).length < b.done.length then some ((planShort b.order b.done).getD []) else none)
 else if a.kind = 3 then (if a.number = 0 ∧ 0 < ((restFor b).getD []).length ∧ b.done.length + ((restFor b).getD []).length ≤ 40 then some (b.done ++ (restFor b).getD []) else none)
 else none
def withDone (b : BookD) (d : List Int) : BookD := ⟨b.order, d, planRun b.order b.order.start d⟩
def bookDo (b : BookD) (a : ActD) : BookD := if bookOk b then (match doneAfter b a with | some d => withDone b d | none => b) else zeroB
def bookDid (b : BookD) (a : ActD) : Bool := bookOk b && (doneAfter b a).isSome
theorem withDone_self {b : BookD} (h : bookOk b = true) : withDone b b.done = b := by
 obtain ⟨-, -, -, h4⟩ := bookOk_parts h
 unfold withDone; rw [h4]
theorem bookOk_mk {o : TaskD} {d : List Int} (h : 0 ≤ planRun o o.start d) : bookOk ⟨o, d, planRun o o.start d⟩ = true := by
 obtain ⟨h1, h2, h3, h4⟩ := (planRun_bd o o.start d).1 h
 unfold bookOk
 simp only [h1, decide_eq_true h3, Bool.true_and, beq_self_eq_true, Bool.and_true]; exact (stIn_iff _).2 ⟨h, h4⟩
theorem planRun_app {t : TaskD} {p q : List Int} (h : 0 ≤ planRun t t.start p) (hl : p.length + q.length ≤ 40) : planRun t t.start (p ++ q) = planRun t (planRun t t.start p) q := by
 obtain ⟨h1, h2, h3, -⟩ := (planRun_bd t t.start p).1 h
 have := (planRun_part h p.length).2 q h3 (by rw [Nat.min_self]; omega)
 rwa [List.take_of_length_le (Nat.le_refl _)] at this
theorem planRun_one {t : TaskD} {s x : Int} (h : x ∈ deedsMay t s) : 0 ≤ planRun t s [x] := by
 obtain ⟨s', hs'⟩ := deedsMay_step h
 unfold deedsMay at h
 split at h
 ·next hh =>
  simp only [Bool.and_eq_true] at hh
  unfold planRun
  rw [if_pos ⟨hh.1, hh.2, by simp⟩]; simp only [runP, hs', Option.bind_some, opt]
  omega
 ·cases h
theorem planFor_run {t : TaskD} {p : List Int} (h : planFor t = some p) : p.length ≤ 31 ∧ 0 ≤ planRun t t.start p ∧ evalCode t.goal (planRun t t.start p).toNat = true := by
 obtain ⟨h1, -, h3, s, h4, h5⟩ := planFor_some h
 have e : planRun t t.start p = (s : Nat) := by
  unfold planRun
  rw [if_pos ⟨h1, (stIn_iff _).2 (taskOk_parts t h1).1, by omega⟩, h4]; rfl
 refine ⟨h3, by rw [e]; omega, ?_⟩; rw [e, Int.toNat_natCast]; exact h5.2
theorem taskOk_from {b : BookD} (h : taskOk b.order = true) (hs : 0 ≤ b.state ∧ b.state < 32) : taskOk (taskFrom b) = true := by
 unfold taskOk taskFrom at *
 simp only [Bool.and_eq_true] at h ⊢
 exact ⟨⟨⟨(stIn_iff _).2 hs, h.1.1.2⟩, h.1.2⟩, h.2⟩
theorem planRun_from {b : BookD} (h : taskOk b.order = true) (hs : 0 ≤ b.state ∧ b.state < 32) (p : List Int) : planRun (taskFrom b) b.state p = planRun b.order b.state p := by
 have hk := taskOk_from h hs
 have e : ∀ (p : List Int) (s : Nat), runP (taskFrom b) s p = runP b.order s p := fun p => by
  induction p with
  | nil => intro s; rfl
  | cons k p ih =>
   intro s; simp only [runP]; rw [show stepP (taskFrom b) s k = stepP b.order s k from rfl]
   congr 1
   funext s'
   exact ih s'
 unfold planRun
 simp only [hk, h, e]
theorem restFor_run {b : BookD} {r : List Int} (h : restFor b = some r) : bookOk b = true ∧ r.length ≤ 31 ∧ 0 ≤ planRun b.order b.state r ∧ evalCode b.order.goal (planRun b.order b.state r).toNat = true := by
 cases hb : bookOk b with
 | false => rw [restFor_no b hb] at h; cases h
 | true =>
  rw [restFor_yes b hb] at h; obtain ⟨h1, -, h3, -⟩ := bookOk_parts hb; obtain ⟨k1, k2, k3⟩ := planFor_run h; rw [show (taskFrom b).start = b.state from rfl, planRun_from h1 h3] at k2 k3; exact ⟨rfl, k1, k2, k3⟩
theorem planShort_ok {b : BookD} (h : bookOk b = true) : planShort b.order b.done = some (shortN b.order b.done 41) := by
 obtain ⟨-, -, h3, h4⟩ := bookOk_parts h
 unfold planShort
 rw [if_neg (by omega)]
theorem doneAfter_run {b : BookD} {a : ActD} {d : List Int} (hb : bookOk b = true) (h : doneAfter b a = some d) : 0 ≤ planRun b.order b.order.start d := by
 obtain ⟨h1, h2, h3, h4⟩ := bookOk_parts hb
 unfold doneAfter at h
 split at h
 ·split at h
  ·next hc =>
   injection h with h; subst h
   rw [planRun_app (by omega) (by simp; omega), h4]; exact planRun_one hc.2
  ·cases h
 ·split at h
  ·split at h
   ·injection h with h; subst h
    exact (planRun_part (by omega) _).1
   ·cases h
  ·split at h
   ·split at h
    ·injection h with h; subst h
     rw [planShort_ok hb, Option.getD_some, shortN_run (by omega)]; omega
    ·cases h
   ·split at h
    ·split at h
     ·next hc =>
      injection h with h; subst h
      cases hr : restFor b with
      | none => rw [hr] at hc; simp at hc
      | some r =>
       rw [hr] at hc; simp only [Option.getD_some] at hc ⊢
       rw [planRun_app (by omega) (by omega), h4]; exact (restFor_run hr).2.2.1
     ·cases h
    ·cases h
theorem doneAfter_len {b : BookD} {a : ActD} {d : List Int} (hb : bookOk b = true) (h : doneAfter b a = some d) : d.length ≤ 40 := ((planRun_bd _ _ _).1 (doneAfter_run hb h)).2.2.1
theorem withDone_ok {b : BookD} {a : ActD} {d : List Int} (hb : bookOk b = true) (h : doneAfter b a = some d) : bookOk (withDone b d) = true := bookOk_mk (doneAfter_run hb h)
theorem bookDo_ok {b : BookD} (a : ActD) (hb : bookOk b = true) : bookOk (bookDo b a) = true := by
 unfold bookDo
 rw [if_pos hb]
 cases h : doneAfter b a with
 | none => exact hb
 | some d => exact withDone_ok hb h
theorem bookDo_order {b : BookD} (a : ActD) (hb : bookOk b = true) : (bookDo b a).order = b.order := by
 unfold bookDo
 rw [if_pos hb]
 cases h : doneAfter b a with
 | none => rfl
 | some d => rfl
theorem bookDo_some {b : BookD} {a : ActD} {d : List Int} (hb : bookOk b = true) (h : doneAfter b a = some d) : bookDo b a = withDone b d ∧ bookDid b a = true := by
 unfold bookDo bookDid; rw [if_pos hb, hb, h]; exact ⟨rfl, rfl⟩
theorem bookDo_none {b : BookD} {a : ActD} (hb : bookOk b = true) (h : doneAfter b a = none) : bookDo b a = b ∧ bookDid b a = false := by
 unfold bookDo bookDid; rw [if_pos hb, hb, h]; exact ⟨rfl, rfl⟩
theorem bookDo_bad {b : BookD} {a : ActD} (hb : bookOk b = false) : bookDo b a = zeroB ∧ bookDid b a = false := by
 unfold bookDo bookDid; rw [if_neg (by rw [hb]; simp), hb]; exact ⟨rfl, rfl⟩
def runB : BookD → List ActD → BookD × Nat
 | b, [] => (b, 0)
 | b, a :: as' => let r := runB (bookDo b a) as'; (r.1, r.2 + (if bookDid b a then 1 else 0))
def runK (b : BookD) (aa : List ActD) (k : Nat) : BookD × Nat := runB b (aa.take k)
def bookRun (b : BookD) (aa : List ActD) : BookD × Nat := if bookOk b && decide (aa.length ≤ 40) then runB b aa else (zeroB, 0)
theorem runB_append (b : BookD) (p q : List ActD) : runB b (p ++ q) = ((runB (runB b p).1 q).1, (runB b p).2 + (runB (runB b p).1 q).2) := by
 induction p generalizing b with
 | nil => simp [runB]
 | cons a p ih =>
  simp only [List.cons_append, runB]; rw [ih]; simp only [Prod.mk.injEq, true_and]
  omega
theorem runK_zero (b : BookD) (aa : List ActD) : runK b aa 0 = (b, 0) := by simp [runK, runB]
theorem runK_step {b : BookD} {aa : List ActD} {k : Nat} {a : ActD} (h : aa[k]? = some a) : runK b aa (k + 1) = (bookDo (runK b aa k).1 a, (runK b aa k).2 + (if bookDid (runK b aa k).1 a then 1 else 0)) := by
 obtain ⟨h1, h2⟩ := List.getElem?_eq_some_iff.1 h
 unfold runK
 rw [List.take_succ_eq_append_getElem h1, h2, runB_append]
 simp [runB]
theorem runK_all (b : BookD) (aa : List ActD) {k : Nat} (h : aa.length ≤ k) : runK b aa k = runB b aa := by unfold runK; rw [List.take_of_length_le h]
theorem runB_ok {b : BookD} (aa : List ActD) (hb : bookOk b = true) : bookOk (runB b aa).1 = true ∧ (runB b aa).1.order = b.order ∧ (runB b aa).2 ≤ aa.length := by
 induction aa generalizing b with
 | nil => exact ⟨hb, rfl, Nat.le_refl _⟩
 | cons a aa ih =>
  obtain ⟨h1, h2, h3⟩ := ih (bookDo_ok a hb); simp only [runB, List.length_cons]; refine ⟨h1, h2.trans (bookDo_order a hb), ?_⟩
  split <;> omega
theorem runK_ok {b : BookD} (aa : List ActD) (k : Nat) (hb : bookOk b = true) : bookOk (runK b aa k).1 = true ∧ (runK b aa k).1.order = b.order ∧ (runK b aa k).2 ≤ aa.length := by
 obtain ⟨h1, h2, h3⟩ := runB_ok (aa.take k) hb; exact ⟨h1, h2, Nat.le_trans h3 (by simp; omega)⟩
open Go.ChangeShapes Go.WideShapes Go.ChangeAt Go.RowKit
def deedDoR (d : DeedD) (s : Int) : Int := if deedOk d = true ∧ stIn s = true then opt (deedDo d s.toNat) else -1
theorem deedsMay_no (t : TaskD) (s : Int) (h : taskOk t = false ∨ stIn s = false) : deedsMay t s = [] := by
 unfold deedsMay; rw [if_neg]; rcases h with h | h <;> simp [h]
theorem deedsMay_yes (t : TaskD) (s : Nat) (h : taskOk t = true) (h' : s < 32) : deedsMay t (s : Int) = mayN t.deeds s t.deeds.length := by
 unfold deedsMay; rw [if_pos (by rw [h, (stIn_iff _).2 ⟨by omega, by omega⟩]; rfl), Int.toNat_natCast]
theorem mayN_none {ds : List DeedD} {s k : Nat} {d : DeedD} (hd : ds[k]? = some d) (h : deedDo d s = none) : mayN ds s (k + 1) = mayN ds s k := by
 rw [mayN_succ, hd]; simp [h]
theorem mayN_some {ds : List DeedD} {s k s' : Nat} {d : DeedD} (hd : ds[k]? = some d) (h : deedDo d s = some s') : mayN ds s (k + 1) = mayN ds s k ++ [((k : Nat) : Int)] := by
 rw [mayN_succ, hd]; simp [h]
theorem deedsMay_impl (v : Value) (t : TaskD) (s : Int) (w : World) (h : RdT w w.heap.size v t) :
  Calls Tryz.prog 116 #[v, .int .i64 s] w (Gives w id fun v => [rInts v (deedsMay t s)]) := by
 have h' := h; obtain ⟨G, gn, gc, G', n', c', rfl, hg, hgs, hds, hst⟩ := h; have HT := Lib.hid h'; have HDS := Lib.hid hds; have HDL := Lib.hid hds.len; have HS0 := Lib.hid ((St.refl w).alloc #[.int .i64 t.start, .slice G gn gc, .slice G' n' c'] 26); obtain ⟨bo, hok⟩ : ∃ b, taskOk t = b := ⟨_, rfl⟩; have HOK := Lib.hid hok; obtain ⟨bs, hsi⟩ : ∃ b, stIn s = b := ⟨_, rfl⟩; have HSI := Lib.hid hsi; clear hok hsi hds h' hg
 cases bo with
 | false =>
  have HN := Bx.mk (deedsMay_no t s (.inl HOK.out)); go_enter Tryz.func116, Tryz.ntmps116
  go_wp2_with fail
  refine (taskValid_impl _ t _ (HT.out.up HS0.out.below)).mono ?_; rw [HOK.out]; rintro e w1 ⟨rfl, hb1⟩; have HB := Lib.hid (HS0.out.quiet hb1).below; clear hb1; go_wp2; go_ret; refine ⟨_, rfl, ?_⟩; rw [HN.out]; exact rInts_nil _ _ HB.out
 | true =>
  cases bs with
  | false =>
   have HN := Bx.mk (deedsMay_no t s (.inr HSI.out)); go_enter Tryz.func116, Tryz.ntmps116
   go_wp2_with fail
   refine (taskValid_impl _ t _ (HT.out.up HS0.out.below)).mono ?_; rw [HOK.out]; rintro e w1 ⟨rfl, hb1⟩; have HB := Lib.hid (HS0.out.quiet hb1).below; clear hb1
   go_wp2_with fail
   refine (stateOk_any s _).mono ?_; rw [HSI.out]; rintro e w2 ⟨rfl, rfl⟩; go_wp2; go_ret; refine ⟨_, rfl, ?_⟩; rw [HN.out]; exact rInts_nil _ _ HB.out
  | true =>
   obtain ⟨hs0, hs1⟩ := (stIn_iff s).1 HSI.out; obtain ⟨s, rfl⟩ := Int.eq_ofNat_of_zero_le hs0; have hs : s < 32 := by omega
   obtain ⟨-, -, hn6, hdok⟩ := taskOk_parts t HOK.out; have HDOK := Lib.hid hdok; have hn6' : n' ≤ 6 := by rw [← HDL.out]; exact hn6
   have HY := Bx.mk (deedsMay_yes t s HOK.out hs); clear hdok hs0 hs1 hn6; go_enter Tryz.func116, Tryz.ntmps116
   go_wp2_with fail
   refine (taskValid_impl _ t _ (HT.out.up HS0.out.below)).mono ?_; rw [HOK.out]; rintro e w1 ⟨rfl, hb1⟩; have HS1 := Lib.hid (HS0.out.quiet hb1); clear hb1
   go_wp2_with fail
   refine (stateOk_any (s : Int) _).mono ?_; rw [HSI.out]; rintro e w2 ⟨rfl, rfl⟩; have q1 := HS1.out.cells 0 rfl; have HS2 : Hid (St w w1 [rBlk w.heap.size 26 #[.int .i64 t.start, .slice G gn gc, .slice G' n' c'], rInts (.slice none 0 0) []]) := Lib.hid (HS1.out.call (rInts_nil _ _ (Below.refl _ _))); go_wp2
   go_loopw [19, 5] (fun i ov wr => ∃ (k : Nat) (x5 : Value) (ys : List Int), k ≤ n' ∧ i = .int .i64 k ∧ x5 = ov ∧ ys.length ≤ k ∧ Bx (mayN t.deeds s k = ys) ∧ St w wr [rBlk w.heap.size 26 #[.int .i64 t.start, .slice G gn gc, .slice G' n' c'], rInts x5 ys]) (fun i _ _ => n' - (intOf i).toNat)
   case atStart => exact ⟨0, _, [], by omega, rfl, rfl, by simp, Bx.mk rfl, HS2.out⟩
   case round =>
    clear HS2 HS1 HS0 q1; obtain ⟨k, x5, ys, hk, rfl, rfl, hyl, HM, S⟩ := hrel; have HS := Lib.hid S; clear S
    by_cases hlt : k < n'
    ·obtain ⟨b, off, d, rfl, hb, hd, hda⟩ := HDS.out.get hlt; obtain ⟨An, nn, cn, p0, p1, p2, p3, hneed, hnn, -⟩ := hda; have r0 : wr.cell? ⟨b, off + k * 4, none⟩ = some (.slice An nn cn) := (bcells HS.out.below b _ hb).trans p0; have r1 : wr.cell? ⟨b, off + k * 4 + 1, none⟩ = some (.int .i64 d.on) := (bcells HS.out.below b _ hb).trans p1; have r2 : wr.cell? ⟨b, off + k * 4 + 2, none⟩ = some (.int .i64 d.off) := (bcells HS.out.below b _ hb).trans p2; have r3 : wr.cell? ⟨b, off + k * 4 + 3, none⟩ = some (.int .i64 d.flip) := (bcells HS.out.below b _ hb).trans p3; have HDO := Lib.hid (HDOK.out d (List.mem_of_getElem? hd)); have HDK := Lib.hid hd; have HND := Lib.hid hneed; have HS3 := Lib.hid ((HS.out.alloc #[.slice An nn cn, .int .i64 d.on, .int .i64 d.off, .int .i64 d.flip] 144).pick [0, 1] (by decide) rfl rfl); clear p0 p1 p2 p3 hneed hd HS; obtain ⟨o, ho⟩ : ∃ o, deedDo d s = o := ⟨_, rfl⟩; have HO := Lib.hid ho; clear ho
     go_wp2_with fail
     refine (behindDeed_any An nn cn d s _ (HND.out.up HS3.out.below) HDO.out hs).mono ?_; rw [HO.out]; rintro e w3 ⟨rfl, hb3⟩; have HS4 := Lib.hid (HS3.out.quiet hb3); clear hb3 HS3 r0 r1 r2 r3
     cases o with
     | none =>
      have HM2 := Bx.mk ((mayN_none HDK.out HO.out).trans HM.out); simp only [opt]; go_wp2
      go_roundw
      case rel => exact ⟨k + 1, _, ys, by omega, by go_num, rfl, by omega, HM2, HS4.out⟩
      case measure => simp [intOf]; omega
     | some z =>
      have HM2 : Bx (mayN t.deeds s (k + 1) = ys ++ [(k : Int)]) := Bx.mk (by rw [mayN_some HDK.out HO.out, HM.out]); simp only [opt]; have HROW := Lib.hid (HS4.out.ownI 1 rfl)
      have HAP : Hid (∀ v3 w3', w3'.ownsRow 0 3 1 v3 (ys.length + 1) (ints ys ++ [Value.int .i64 (k : Int)]) → (w3.alloc (.cells #[.int .i64 (k : Int)] 3)).grownBy w3' x5.ownBlock → (v3.ownBlock = x5.ownBlock ∨ v3.ownBlock = some (w3.alloc (.cells #[.int .i64 (k : Int)] 3)).heap.size) →
        St w w3' [rBlk w.heap.size 26 #[.int .i64 t.start, .slice G gn gc, .slice (some ⟨b, off, none⟩) n' c'], rInts v3 (ys ++ [(k : Int)])]) :=
       Lib.hid fun v3 w3' h1 h2 h3 => St.appI (v := x5) (xs := ys) (ys := [(k : Int)]) ((HS4.out.alloc #[.int .i64 (k : Int)] 3).pick [0, 1] (by decide) rfl rfl) 1 rfl rfl h1 (by intro y hy; simp at hy; subst hy; exact wf_i64_mk (by omega)) h2 h3
      go_wp2_with (at_builtin; refine wp_app elInt rfl _ _ rfl 0 x5 ys.length (ints ys) rfl (HROW.out.alloc _) _ _ 1 1 [.int .i64 (k : Int)] rfl (RdRow.new w3 [.int .i64 (k : Int)] 3 1 1 rfl (by unfold maxLen; omega)) (by simp [Value.oneCell']) (by omega) (by omega) (Nat.zero_le _) ?_; intro v4 w4 hown4 hg4 hat4; have HS6 := Lib.hid (HAP.out v4 w4 hown4 hg4 hat4))
      go_wp2
      go_roundw
      case rel => exact ⟨k + 1, _, ys ++ [(k : Int)], by omega, by go_num, rfl, by simp; omega, HM2, HS6.out⟩
      case measure => simp [intOf]; omega
    ·obtain rfl : k = n' := by omega
     have HE : Bx (deedsMay t (s : Int) = ys) := Bx.mk (by rw [HY.out, HDL.out, HM.out]); go_wp2; go_ret; refine ⟨_, rfl, ?_⟩; rw [HE.out]; exact HS.out.pick [1] (by decide) rfl rfl
theorem deedDo_spec (A : Option Addr) (n c : Nat) (d : DeedD) (s : Int) (w : World) (h : RdI .i64 w w.heap.size A n c d.need) (hn40 : n ≤ 1099511627776) :
  Calls Tryz.prog 122 #[.agg #[.slice A n c, .int .i64 d.on, .int .i64 d.off, .int .i64 d.flip], .int .i64 s] w fun e w' => e = .returned (.int .i64 (deedDoR d s)) ∧ Below w.heap.size w w' := by
 have HS0 := Lib.hid ((St.refl w).alloc #[.slice A n c, .int .i64 d.on, .int .i64 d.off, .int .i64 d.flip] 144); have H := Lib.hid h; clear h; obtain ⟨bo, hok⟩ : ∃ b, deedOk d = b := ⟨_, rfl⟩; obtain ⟨bs, hs⟩ : ∃ b, stIn s = b := ⟨_, rfl⟩; have HV : deedOk d = false ∨ stIn s = false → deedDoR d s = -1 := fun h => if_neg (by rintro ⟨h1, h2⟩; rcases h with h | h <;> simp_all)
 have HOK := Bx.mk hok; have HS := Bx.mk hs; have HLI : Bx (decide (0 ≤ s ∧ s ≤ 31) = bs) := Bx.mk (by rw [← hs]; unfold stIn; congr 1; apply propext; omega)
 cases bo with
 | false =>
  have HV := Bx.mk (HV (.inl hok)); clear hok hs; go_enter Tryz.func122, Tryz.ntmps122
  go_wp2_with fail
  refine (deedValid_spec A n c d _ (H.out.up HS0.out.below) hn40).mono ?_; rw [HOK.out]; rintro e w1 ⟨rfl, hb1⟩; have HB := Lib.hid (HS0.out.quiet hb1).below; clear hb1; go_wp2; go_ret; exact ⟨ret_int HV.out.symm, HB.out⟩
 | true =>
  cases bs with
  | false =>
   have HV := Bx.mk (HV (.inr hs)); clear hok hs; go_enter Tryz.func122, Tryz.ntmps122
   go_wp2_with fail
   refine (deedValid_spec A n c d _ (H.out.up HS0.out.below) hn40).mono ?_; rw [HOK.out]; rintro e w1 ⟨rfl, hb1⟩; have HB := Lib.hid (HS0.out.quiet hb1).below; clear hb1
   go_wp2_with fail
   refine (l1In_any s 0 31 _).mono ?_; rw [HLI.out]; rintro e w2 ⟨rfl, rfl⟩; go_wp2; go_ret; exact ⟨ret_int HV.out.symm, HB.out⟩
  | true =>
   obtain ⟨h0, h1⟩ := (stIn_iff s).1 hs; obtain ⟨m, rfl⟩ := Int.eq_ofNat_of_zero_le h0; have hm : m < 32 := by omega
   have HV : Bx (deedDoR d (m : Int) = opt (deedDo d m)) := Bx.mk (by unfold deedDoR; rw [if_pos ⟨hok, hs⟩, Int.toNat_natCast]); clear hok hs h0 h1; go_enter Tryz.func122, Tryz.ntmps122
   go_wp2_with fail
   refine (deedValid_spec A n c d _ (H.out.up HS0.out.below) hn40).mono ?_; rw [HOK.out]; rintro e w1 ⟨rfl, hb1⟩; have HS1 := Lib.hid (HS0.out.quiet hb1); clear hb1
   go_wp2_with fail
   refine (l1In_any (m : Int) 0 31 _).mono ?_; rw [HLI.out]; rintro e w2 ⟨rfl, rfl⟩; have q1 := HS1.out.cells 0 rfl
   go_wp2_with fail
   refine (l6Do_any A n c d m _ (H.out.up HS1.out.below) HOK.out hm).mono ?_; rintro e w3 ⟨rfl, hb3⟩; have HB := Lib.hid (HS1.out.quiet hb3).below; clear hb3; go_wp2; go_ret; exact ⟨ret_int HV.out.symm, HB.out⟩
def mayZ (ds : List DeedD) (s : Int) (n : Nat) : List Int := if stIn s then mayN ds s.toNat n else []
theorem mayZ_none {ds : List DeedD} {s : Int} {k : Nat} {d : DeedD} (hd : ds[k]? = some d) (hok : deedOk d = true) (h : ¬ 0 ≤ deedDoR d s) : mayZ ds s (k + 1) = mayZ ds s k := by
 unfold mayZ
 by_cases hs : stIn s = true
 ·rw [if_pos hs, if_pos hs]
  unfold deedDoR at h
  rw [if_pos ⟨hok, hs⟩] at h
  cases ho : deedDo d s.toNat with
  | none => exact mayN_none hd ho
  | some z => rw [ho] at h; simp only [opt] at h; omega
 ·rw [if_neg hs, if_neg hs]
theorem mayZ_some {ds : List DeedD} {s : Int} {k : Nat} {d : DeedD} (hd : ds[k]? = some d) (h : 0 ≤ deedDoR d s) : mayZ ds s (k + 1) = mayZ ds s k ++ [((k : Nat) : Int)] := by
 unfold deedDoR at h
 by_cases hs : deedOk d = true ∧ stIn s = true
 ·unfold mayZ
  rw [if_pos hs.2, if_pos hs.2]; rw [if_pos hs] at h; obtain ⟨z, hz⟩ := opt_nonneg.1 h; exact mayN_some hd hz
 ·rw [if_neg hs] at h; omega
theorem deedsMay_mayZ (t : TaskD) (s : Int) (h : taskOk t = true) : deedsMay t s = mayZ t.deeds s t.deeds.length := by
 unfold deedsMay mayZ; rw [h, Bool.true_and]
theorem deedsMay_spec (v : Value) (t : TaskD) (s : Int) (w : World) (h : RdT w w.heap.size v t) :
  Calls Tryz.prog 55 #[v, .int .i64 s] w (Gives w id fun v => [rInts v (deedsMay t s)]) := by
 have h' := h; obtain ⟨G, gn, gc, G', n', c', rfl, hg, hgs, hds, hst⟩ := h; have HT := Lib.hid h'; have HDS := Lib.hid hds; have HDL := Lib.hid hds.len; have hcap := hds.cap; have hcm := hds.capMax
 unfold maxLen at hcm
 have HS0' : Hid (∀ g, g = w.heap.size + 1 → St w ((w.alloc (.cells #[.int .i64 t.start, .slice G gn gc, .slice G' n' c'] 26)).alloc (.cells #[] 3)) [rBlk w.heap.size 26 #[.int .i64 t.start, .slice G gn gc, .slice G' n' c'], rInts (.slice (some ⟨g, 0, none⟩) 0 0) []]) :=
  Lib.hid fun g hg => by subst hg; exact ((St.refl w).alloc #[.int .i64 t.start, .slice G gn gc, .slice G' n' c'] 26).call (St.newI _ _ (by simp))
 have HS0 := Lib.hid (HS0'.out _ rfl); clear HS0'; obtain ⟨bo, hok⟩ : ∃ b, taskOk t = b := ⟨_, rfl⟩; have HOK := Lib.hid hok; clear hok hds h' hg
 cases bo with
 | false =>
  have HN := Bx.mk (deedsMay_no t s (.inl HOK.out)); go_enter Tryz.func55, Tryz.ntmps55; go_wp2
  go_loopw [6, 5] (fun i ov wr => i = .int .i64 0 ∧ ov = .slice (some ⟨w.heap.size + 1, 0, none⟩) 0 0 ∧ St w wr [rBlk w.heap.size 26 #[.int .i64 t.start, .slice G gn gc, .slice G' n' c'], rInts (.slice (some ⟨w.heap.size + 1, 0, none⟩) 0 0) []]) (fun i _ _ => 0)
  case atStart => exact ⟨rfl, rfl, HS0.out⟩
  case round =>
   clear HS0; obtain ⟨rfl, rfl, S⟩ := hrel; have HS := Lib.hid S; have q0 := S.cells 0 rfl; clear S
   by_cases hn : n' = 0
   ·subst hn; go_wp2; go_ret; refine ⟨_, rfl, ?_⟩; rw [HN.out]; exact HS.out.pick [1] (by decide) rfl rfl
   ·have hn0 : (0 : Int) < (n' : Int) := by omega
    clear hn
    go_wp2_with fail
    refine (taskValid_spec _ t _ (HT.out.up HS.out.below)).mono ?_; rw [HOK.out]; rintro e w2 ⟨rfl, hb2⟩; have HS2 := Lib.hid (HS.out.quiet hb2); clear hb2 q0; go_wp2; go_ret; refine ⟨_, rfl, ?_⟩; rw [HN.out]; exact HS2.out.pick [1] (by decide) rfl rfl
 | true =>
  obtain ⟨-, -, hn6, hdok⟩ := taskOk_parts t HOK.out; have HDOK := Lib.hid hdok; have hn6' : n' ≤ 6 := by rw [← HDL.out]; exact hn6
  have HY := Bx.mk (deedsMay_mayZ t s HOK.out); clear hdok hn6; go_enter Tryz.func55, Tryz.ntmps55; go_wp2
  go_loopw [6, 5] (fun i ov wr => ∃ (k : Nat) (x5 : Value) (ys : List Int), k ≤ n' ∧ i = .int .i64 k ∧ x5 = ov ∧ ys.length ≤ k ∧ Bx (mayZ t.deeds s k = ys) ∧ St w wr [rBlk w.heap.size 26 #[.int .i64 t.start, .slice G gn gc, .slice G' n' c'], rInts x5 ys]) (fun i _ _ => n' - (intOf i).toNat)
  case atStart => exact ⟨0, _, [], by omega, rfl, rfl, by simp, Bx.mk (by unfold mayZ; split <;> rfl), HS0.out⟩
  case round =>
   clear HS0; obtain ⟨k, x5, ys, hk, rfl, rfl, hyl, HM, S⟩ := hrel; have HS := Lib.hid S; have q0 := S.cells 0 rfl; clear S
   by_cases hlt : k < n'
   ·have hlti : (k : Int) < (n' : Int) := by omega
    go_wp2_with fail
    refine (taskValid_spec _ t _ (HT.out.up HS.out.below)).mono ?_; rw [HOK.out]; rintro e w2 ⟨rfl, hb2⟩; have HS2 := Lib.hid (HS.out.quiet hb2); clear hb2 q0 HS; obtain ⟨b, off, d, rfl, hb, hd, hda⟩ := HDS.out.get hlt; obtain ⟨An, nn, cn, p0, p1, p2, p3, hneed, hnn, -⟩ := hda; have q2 := HS2.out.cells 0 rfl; have r0 : w2.cell? ⟨b, off + k * 4, none⟩ = some (.slice An nn cn) := (bcells HS2.out.below b _ hb).trans p0; have r1 : w2.cell? ⟨b, off + k * 4 + 1, none⟩ = some (.int .i64 d.on) := (bcells HS2.out.below b _ hb).trans p1; have r2 : w2.cell? ⟨b, off + k * 4 + 2, none⟩ = some (.int .i64 d.off) := (bcells HS2.out.below b _ hb).trans p2; have r3 : w2.cell? ⟨b, off + k * 4 + 3, none⟩ = some (.int .i64 d.flip) := (bcells HS2.out.below b _ hb).trans p3; have HDO := Lib.hid (HDOK.out d (List.mem_of_getElem? hd)); have HDK := Lib.hid hd; have HND := Lib.hid hneed; clear p0 p1 p2 p3 hneed hd; obtain ⟨z, hz⟩ : ∃ z, deedDoR d s = z := ⟨_, rfl⟩; have HZ := Lib.hid hz; clear hz
    go_wp2_with fail
    refine (deedDo_spec An nn cn d s _ (HND.out.up HS2.out.below) (by omega)).mono ?_; rw [HZ.out]; rintro e w3 ⟨rfl, hb3⟩; have HS4 := Lib.hid (HS2.out.quiet hb3); clear hb3 HS2 r0 r1 r2 r3 q2
    by_cases hz : 0 ≤ z
    ·have HM2 : Bx (mayZ t.deeds s (k + 1) = ys ++ [(k : Int)]) := Bx.mk (by rw [mayZ_some HDK.out (by rw [HZ.out]; exact hz), HM.out]); have HROW := Lib.hid (HS4.out.ownI 1 rfl)
     have HAP : Hid (∀ v3 w3', w3'.ownsRow 0 3 1 v3 (ys.length + 1) (ints ys ++ [Value.int .i64 (k : Int)]) → (w3.alloc (.cells #[.int .i64 (k : Int)] 3)).grownBy w3' x5.ownBlock → (v3.ownBlock = x5.ownBlock ∨ v3.ownBlock = some (w3.alloc (.cells #[.int .i64 (k : Int)] 3)).heap.size) →
       St w w3' [rBlk w.heap.size 26 #[.int .i64 t.start, .slice G gn gc, .slice (some ⟨b, off, none⟩) n' c'], rInts v3 (ys ++ [(k : Int)])]) :=
      Lib.hid fun v3 w3' h1 h2 h3 => St.appI (v := x5) (xs := ys) (ys := [(k : Int)]) ((HS4.out.alloc #[.int .i64 (k : Int)] 3).pick [0, 1] (by decide) rfl rfl) 1 rfl rfl h1 (by intro y hy; simp at hy; subst hy; exact wf_i64_mk (by omega)) h2 h3
     go_wp2_with (at_builtin; refine wp_app elInt rfl _ _ rfl 0 x5 ys.length (ints ys) rfl (HROW.out.alloc _) _ _ 1 1 [.int .i64 (k : Int)] rfl (RdRow.new w3 [.int .i64 (k : Int)] 3 1 1 rfl (by unfold maxLen; omega)) (by simp [Value.oneCell']) (by omega) (by omega) (Nat.zero_le _) ?_; intro v4 w4 hown4 hg4 hat4; have HS6 := Lib.hid (HAP.out v4 w4 hown4 hg4 hat4))
     go_wp2
     go_roundw
     case rel => exact ⟨k + 1, _, ys ++ [(k : Int)], by omega, by go_num, rfl, by simp; omega, HM2, HS6.out⟩
     case measure => simp [intOf]; omega
    ·have HM2 := Bx.mk ((mayZ_none HDK.out HDO.out (by rw [HZ.out]; exact hz)).trans HM.out); go_wp2
     go_roundw
     case rel => exact ⟨k + 1, _, ys, by omega, by go_num, rfl, by omega, HM2, HS4.out⟩
     case measure => simp [intOf]; omega
   ·obtain rfl : k = n' := by omega
    have HE : Bx (deedsMay t s = ys) := Bx.mk (by rw [HY.out, HDL.out, HM.out]); go_wp2; go_ret; refine ⟨_, rfl, ?_⟩; rw [HE.out]; exact HS.out.pick [1] (by decide) rfl rfl
end Go.Proofs.YtkmcengmglgdeaaGreatDoor
