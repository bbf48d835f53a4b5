/- Plain law: a task with its facts named anew has the same plans, and as many states are reached; no program in sight. -/
import Derived.Test.YtdbgoekemffimaaJFnTaskNamedTurnP
import Derived.Test.YtdbgoekemffimaaJFnTaskNamed6
import Derived.Test.YtdbgoekemffimaaJFnTaskNamedPlansW
import Derived.Test.YtdbgoekemffimaaJFnTaskNamed11
namespace Go.Proofs.Ytdbgoekemffimaa
set_option linter.unusedVariables false

theorem perm_sur0 : ∀ a b c d e : Fin 5, [a, b, c, d, e].Nodup → ∀ x : Fin 5, ∃ k : Fin 5, [a, b, c, d, e][k.val]? = some x := by decide +kernel
/-- a row of five names -/
structure P5 (p : List Int) : Prop where
  len : p.length = 5
  at_ : ∀ k, k < 5 → ∃ x, x < 5 ∧ p[k]? = some ((x : Nat) : Int)
  nd : p.Nodup
  sur : ∀ x, x < 5 → ∃ k, k < 5 ∧ p[k]? = some ((x : Nat) : Int)
theorem P5.of {p : List Int} (h : permOk p = true) (h5 : p.length = 5) : P5 p := by
  obtain ⟨-, h1, h2⟩ := (permOk_iff p).1 h
  refine ⟨h5, fun k hk => ?_, h2, ?_⟩
  · have hl : k < p.length := by omega
    obtain ⟨a, b⟩ := h1 _ (List.getElem_mem hl)
    exact ⟨p[k].toNat, by omega, by rw [List.getElem?_eq_getElem hl]; congr 1; omega⟩
  · obtain ⟨a, b, c, d, e, rfl⟩ : ∃ a b c d e, p = [a, b, c, d, e] := by
      match p, h5 with
      | [a, b, c, d, e], _ => exact ⟨a, b, c, d, e, rfl⟩
    have key : ∀ x ∈ [a, b, c, d, e], ∃ y : Fin 5, x = ((y.val : Nat) : Int) := fun x hx => by
      obtain ⟨q1, q2⟩ := h1 x hx
      rw [h5] at q2
      exact ⟨⟨x.toNat, by omega⟩, by simp only; omega⟩
    obtain ⟨a, rfl⟩ := key a (by simp)
    obtain ⟨b, rfl⟩ := key b (by simp)
    obtain ⟨c, rfl⟩ := key c (by simp)
    obtain ⟨d, rfl⟩ := key d (by simp)
    obtain ⟨e, rfl⟩ := key e (by simp)
    have e0 : [((a.val : Nat) : Int), (b.val : Nat), (c.val : Nat), (d.val : Nat), (e.val : Nat)] = [a, b, c, d, e].map fun (y : Fin 5) => ((y.val : Nat) : Int) := rfl
    rw [e0] at h2 ⊢
    have hnd : [a, b, c, d, e].Nodup := by
      rw [List.nodup_iff_pairwise_ne, List.pairwise_map] at h2
      exact h2.imp fun hh e => hh (by rw [e])
    intro x hx
    obtain ⟨k, hk⟩ := perm_sur0 a b c d e hnd ⟨x, hx⟩
    exact ⟨k.val, k.isLt, by rw [List.getElem?_map, hk]; rfl⟩
theorem setN_bit {p : List Int} (hp : P5 p) {k x : Nat} (hk : k < 5) (hx : p[k]? = some ((x : Nat) : Int)) (s : Nat) : (setN p s).testBit x = s.testBit k := by
  have hx5 : x < 5 := by obtain ⟨y, hy, e⟩ := hp.at_ k hk; rw [hx] at e; have := Option.some.inj e; omega
  unfold setN
  rw [testBit_mset, decide_eq_true hx5, Bool.true_and, Bool.eq_iff_iff]
  unfold nameP
  simp only [List.any_eq_true, List.mem_range, Bool.and_eq_true, beq_iff_eq]
  constructor
  · rintro ⟨k', hk', h1, h2⟩
    have e : k' = k := by
      have hl : k' < p.length := by rw [hp.len]; exact hk'
      have hl2 : k < p.length := by rw [hp.len]; exact hk
      rw [List.getElem?_eq_getElem hl, ← hx, List.getElem?_eq_getElem hl2] at h2
      exact (List.getElem_inj hp.nd).1 (Option.some.inj h2)
    subst e
    rw [testBit_bit, h1]; rfl
  · intro h
    refine ⟨k, hk, ?_, hx⟩
    rw [testBit_bit] at h
    simpa using h
theorem ext_perm {p : List Int} (hp : P5 p) {a b : Nat} (ha : a < 32) (hb : b < 32) (h : ∀ k x, k < 5 → x < 5 → p[k]? = some ((x : Nat) : Int) → a.testBit x = b.testBit x) : a = b :=
  ext5 ha hb fun x hx => by obtain ⟨k, hk, e⟩ := hp.sur x hx; exact h k x hk hx e
theorem setN_inj {p : List Int} (hp : P5 p) {s t : Nat} (hs : s < 32) (ht : t < 32) (h : setN p s = setN p t) : s = t :=
  ext5 hs ht fun k hk => by obtain ⟨x, -, e⟩ := hp.at_ k hk; rw [← setN_bit hp hk e s, ← setN_bit hp hk e t, h]
theorem setN_sur {p : List Int} (hp : P5 p) {s : Nat} (hs : s < 32) : ∃ t, t < 32 ∧ setN p t = s := by
  refine ⟨mset (fun k => s.testBit (p.getD k 0).toNat) 5, mset_lt _ 5, ext_perm hp (setN_lt _ _) hs fun k x hk hx e => ?_⟩
  rw [setN_bit hp hk e, testBit_mset, decide_eq_true hk, Bool.true_and, List.getD, e]
  simp
theorem setN_and {p : List Int} (hp : P5 p) {a b : Nat} (h : a &&& b = 0) : setN p a &&& setN p b = 0 := by
  have hl : setN p a &&& setN p b < 32 := Nat.lt_of_le_of_lt Nat.and_le_left (setN_lt p a)
  refine ext_perm hp hl (by omega) fun k x hk hx e => ?_
  rw [Nat.testBit_and, setN_bit hp hk e, setN_bit hp hk e, ← Nat.testBit_and, h]; simp
theorem stepN_fact {p : List Int} (hp : P5 p) {k : Nat} (hk : k < 5) : ∃ x, x < 5 ∧ p[k]? = some ((x : Nat) : Int) ∧ stepN p (k : Int) = ((x : Nat) : Int) := by
  obtain ⟨x, hx, e⟩ := hp.at_ k hk
  exact ⟨x, hx, e, by unfold stepN; rw [if_pos (by omega), Int.toNat_natCast, List.getD, e]; rfl⟩
theorem stepN_high {p : List Int} {x : Int} (h : ¬ x < 5) : stepN p x = x := if_neg h
theorem dStep_named {p : List Int} (hp : P5 p) (d : Nat) {x : Int} (h0 : 0 ≤ x) : dStep d (stepN p x) = dStep d x := by
  by_cases h5 : x < 5
  · obtain ⟨k, rfl⟩ := Int.eq_ofNat_of_zero_le h0
    obtain ⟨y, hy, -, e⟩ := stepN_fact hp (k := k) (by omega)
    rw [e]
    unfold dStep
    rw [if_neg (by omega), if_pos (by omega), if_neg (by omega), if_pos (by omega)]
  · rw [stepN_high h5]
theorem dRun_named {p : List Int} (hp : P5 p) : ∀ (xs : List Int) (d : Nat), (∀ x ∈ xs, 0 ≤ x ∧ x ≤ 9) → dRun d (codeN p xs) = dRun d xs := by
  intro xs
  induction xs with
  | nil => intro d _; rfl
  | cons x xs ih =>
    intro d h
    have hr := fun d => ih d fun y hy => h y (List.mem_cons_of_mem _ hy)
    show (dStep d (stepN p x)).bind (fun d' => dRun d' (codeN p xs)) = (dStep d x).bind fun d' => dRun d' xs
    rw [dStep_named hp d (h x (List.mem_cons_self ..)).1]
    congr 1
    funext d'
    exact hr d'
theorem codeOk_named {p : List Int} (hp : P5 p) {xs : List Int} (h : codeOk xs = true) : codeOk (codeN p xs) = true := by
  have hr := dRun_named hp xs 0 (codeOk_in xs h)
  unfold codeOk at h ⊢
  rw [hr, show (codeN p xs).length = xs.length by simp [codeN]]
  exact h
theorem eval_named {p : List Int} (hp : P5 p) (s : Nat) : ∀ (xs : List Int) (st : List Bool), (∀ x ∈ xs, 0 ≤ x ∧ x ≤ 9) → evalRun (setN p s) st (codeN p xs) = evalRun s st xs := by
  intro xs
  induction xs with
  | nil => intro st _; rfl
  | cons x xs ih =>
    intro st h
    have hr := fun st => ih st fun y hy => h y (List.mem_cons_of_mem _ hy)
    obtain ⟨h0, h9⟩ := h x (List.mem_cons_self ..)
    show evalRun (setN p s) (evalStep (setN p s) st (stepN p x)) (codeN p xs) = evalRun s (evalStep s st x) xs
    rw [hr]
    congr 1
    by_cases h5 : x < 5
    · obtain ⟨k, rfl⟩ := Int.eq_ofNat_of_zero_le h0
      obtain ⟨y, hy, e1, e⟩ := stepN_fact hp (k := k) (by omega)
      rw [e, evalStep_fact _ st (by omega), evalStep_fact _ st h5, Int.toNat_natCast, Int.toNat_natCast, setN_bit hp (by omega) e1]
    · rw [stepN_high h5]
      exact evalStep_same _ _ st (by omega) h9
theorem evalCode_named {p : List Int} (hp : P5 p) (s : Nat) (xs : List Int) (h : codeOk xs = true) : evalCode (codeN p xs) (setN p s) = evalCode xs s := by
  unfold evalCode; rw [eval_named hp s xs [] (codeOk_in xs h)]
theorem deedOk_named {p : List Int} (hp : P5 p) {d : DeedD} (h : deedOk d = true) : deedOk (deedN p d) = true := by
  obtain ⟨h1, h2, h3, h4, e1, e2, e3⟩ := deedOk_parts d h
  unfold deedOk deedN apart3
  simp only [Bool.and_eq_true, decide_eq_true_eq, Int.toNat_natCast]
  have hst : ∀ s, stIn ((setN p s : Nat) : Int) = true := fun s => (stIn_iff _).2 ⟨by omega, by have := setN_lt p s; omega⟩
  exact ⟨⟨⟨⟨codeOk_named hp h1, hst _⟩, hst _⟩, hst _⟩, ⟨setN_and hp e1, setN_and hp e2⟩, setN_and hp e3⟩
theorem behind_named {p : List Int} (hp : P5 p) (d : DeedD) (s : Nat) (hs : s < 32) (h : deedOk d = true) : behind (deedN p d) (setN p s) = setN p (behind d s) := by
  have h' := deedOk_named hp h
  refine ext_perm hp (behind_lt _ _ h' (setN_lt _ _)) (setN_lt _ _) fun k x hk hx e => ?_
  rw [behind_bit _ _ x (setN_lt _ _) h' hx, setN_bit hp hk e, setN_bit hp hk e, behind_bit d s k hs h hk]
  show (((s.testBit k || (((setN p d.on.toNat : Nat) : Int).toNat).testBit x) && !(((setN p d.off.toNat : Nat) : Int).toNat).testBit x) ^^ (((setN p d.flip.toNat : Nat) : Int).toNat).testBit x) = _
  rw [Int.toNat_natCast, Int.toNat_natCast, Int.toNat_natCast, setN_bit hp hk e, setN_bit hp hk e, setN_bit hp hk e]
theorem deedDo_named {p : List Int} (hp : P5 p) (d : DeedD) (s : Nat) (hs : s < 32) (h : deedOk d = true) : deedDo (deedN p d) (setN p s) = (deedDo d s).map (setN p) := by
  unfold deedDo
  have : evalCode (deedN p d).need (setN p s) = evalCode d.need s := evalCode_named hp s d.need (deedOk_parts d h).1
  rw [this]
  split
  · rw [behind_named hp d s hs h]; rfl
  · rfl
theorem iso_named {p : List Int} (hp : P5 p) {t : TaskD} (h : taskOk t = true) : Iso t.deeds (deedN p) (setN p) :=
  ⟨fun s hs => setN_lt _ _, fun d hd s hs => deedDo_named hp d s hs ((taskOk_parts t h).2.2.2 d hd)⟩
def namT (p : List Int) (t : TaskD) : TaskD := ⟨setN p t.start.toNat, codeN p t.goal, t.deeds.map (deedN p)⟩
theorem taskOk_named {p : List Int} (hp : P5 p) {t : TaskD} (h : taskOk t = true) : taskOk (namT p t) = true := by
  have hq := taskOk_parts t h
  unfold taskOk namT
  simp only [Bool.and_eq_true, decide_eq_true_eq, List.all_eq_true, List.length_map, List.mem_map]
  refine ⟨⟨⟨(stIn_iff _).2 ⟨by omega, by have := setN_lt p t.start.toNat; omega⟩, codeOk_named hp hq.2.1⟩, hq.2.2.1⟩, ?_⟩
  rintro _ ⟨d, hd, rfl⟩
  exact deedOk_named hp (hq.2.2.2 d hd)
theorem planFor_named {p : List Int} (hp : P5 p) {t : TaskD} (h : taskOk t = true) : planFor (namT p t) = planFor t := by
  have hq := taskOk_parts t h
  unfold planFor
  rw [if_pos h, if_pos (taskOk_named hp h)]
  show planOf (t.deeds.map (deedN p)) (evalCode (codeN p t.goal)) (((setN p t.start.toNat : Nat) : Int).toNat) = _
  rw [Int.toNat_natCast]
  exact (iso_named hp h).planOf hq.2.2.2 (fun s hs => evalCode_named hp s t.goal hq.2.1) (by omega)
theorem plansMany_named {p : List Int} (hp : P5 p) {t : TaskD} (h : taskOk t = true) : plansMany (namT p t) = plansMany t := by
  have hq := taskOk_parts t h
  have hs : t.start.toNat < 32 := by omega
  have hT := fun s (hs : s < 32) => evalCode_named hp s t.goal hq.2.1
  unfold plansMany
  rw [if_pos h, if_pos (taskOk_named hp h)]
  show (if stpV (t.deeds.map (deedN p)) (evalCode (codeN p t.goal)) (((setN p t.start.toNat : Nat) : Int).toNat) < 0 then 0 else wrap (waysN (t.deeds.map (deedN p)) (evalCode (codeN p t.goal)) (stpV (t.deeds.map (deedN p)) (evalCode (codeN p t.goal)) (((setN p t.start.toNat : Nat) : Int).toNat)).toNat (((setN p t.start.toNat : Nat) : Int).toNat))) = _
  rw [Int.toNat_natCast, (iso_named hp h).stpV hq.2.2.2 hT hs, (iso_named hp h).waysN hq.2.2.2 hT _ _ hs]
theorem fwd_named {p : List Int} (hp : P5 p) {t : TaskD} (h : taskOk t = true) {s : Nat} (hs : s < 32) : fwd (namT p t).deeds (only (namT p t).start.toNat) 32 (setN p s) = fwd t.deeds (only t.start.toNat) 32 s := by
  have hq := taskOk_parts t h
  have h0 : t.start.toNat < 32 := by omega
  show fwd (t.deeds.map (deedN p)) (only (((setN p t.start.toNat : Nat) : Int).toNat)) 32 (setN p s) = _
  rw [Int.toNat_natCast]
  refine (iso_named hp h).fwd hq.2.2.2 (fun s t hs ht e => setN_inj hp hs ht e) (fun s hs => setN_sur hp hs) (fun s hs => ?_) 32 s hs
  unfold only
  rw [Bool.eq_iff_iff]
  simp only [decide_eq_true_eq]
  exact ⟨fun e => setN_inj hp h0 hs e, fun e => by rw [e]⟩
/-- as many members, where one answers the other -/
theorem sum_perm {p : List Int} (hp : P5 p) {f g : Nat → Bool} (h : ∀ s, s < 32 → g (setN p s) = f s) : sumR 32 (fun x => if g x then 1 else 0) = sumR 32 (fun x => if f x then 1 else 0) := by
  have e1 : sumR 32 (fun x => if g x then (1 : Int) else 0) = sumR 32 (fun x => sumR 32 (fun s => if setN p s = x then (if f s then 1 else 0) else 0)) := sumR_congr fun x hx => by
    obtain ⟨t, ht, e⟩ := setN_sur hp hx
    rw [← e, h t ht]
    rw [← sumR_one 32 t (fun s => if f s then (1 : Int) else 0) ht]
    refine sumR_congr fun s hs => ?_
    by_cases hst : s = t
    · subst hst; rw [if_pos rfl, if_pos rfl]
    · rw [if_neg hst, if_neg (fun h => hst (setN_inj hp hs ht h))]
  rw [e1, sumR_swap]
  refine sumR_congr fun s hs => ?_
  have := sumR_one 32 (setN p s) (fun _ => if f s then (1 : Int) else 0) (setN_lt _ _)
  refine Eq.trans (sumR_congr fun x hx => ?_) this
  · by_cases e : setN p s = x
    · rw [if_pos e, if_pos e.symm]
    · rw [if_neg e, if_neg (fun h => e h.symm)]
theorem sumR_split (n m : Nat) (f : Nat → Int) : sumR (n + m) f = sumR n f + sumR m (fun i => f (n + i)) := by
  induction m with
  | zero => simp [sumR]
  | succ m ih => show sumR (n + m) f + f (n + m) = _; rw [ih]; simp only [sumR]; omega
theorem bitSum_sumR (n : Nat) : ∀ k, ((bitSum n k : Nat) : Int) = sumR k (fun i => if n.testBit i then 1 else 0) := by
  intro k
  induction k with
  | zero => rfl
  | succ k ih =>
    simp only [bitSum, sumR]
    rw [← ih, testBit_bit]
    have := bit_lt n k
    by_cases e : bit n k = 1
    · rw [e]; simp
    · rw [show bit n k = 0 by omega]; simp
theorem bitSum_mset (f : Nat → Bool) : ((bitSum (mset f 32) 40 : Nat) : Int) = sumR 32 (fun i => if f i then 1 else 0) := by
  rw [bitSum_sumR, sumR_split 32 8]
  rw [sumR_zero (n := 8) (f := fun i => if (mset f 32).testBit (32 + i) = true then 1 else 0) (fun i hi => by rw [testBit_mset, decide_eq_false (by omega)]; simp), Int.add_zero]
  exact sumR_congr fun i hi => by rw [testBit_mset, decide_eq_true hi, Bool.true_and]
theorem bits_named {p : List Int} (hp : P5 p) {t : TaskD} (h : taskOk t = true) : bitSum (mset (fwd (namT p t).deeds (only (namT p t).start.toNat) 32) 32) 40 = bitSum (mset (fwd t.deeds (only t.start.toNat) 32) 32) 40 := by
  have e : ((bitSum (mset (fwd (namT p t).deeds (only (namT p t).start.toNat) 32) 32) 40 : Nat) : Int) = ((bitSum (mset (fwd t.deeds (only t.start.toNat) 32) 32) 40 : Nat) : Int) := by
    rw [bitSum_mset, bitSum_mset]
    exact sum_perm hp fun s hs => fwd_named hp h hs
  omega
end Go.Proofs.Ytdbgoekemffimaa
