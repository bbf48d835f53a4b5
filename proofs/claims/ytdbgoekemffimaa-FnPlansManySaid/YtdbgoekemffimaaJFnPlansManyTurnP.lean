/- Plain law: a task with some facts turned round has the same plans, and what is reached are the same states, turned; no program in sight. -/
import Derived.Test.YtdbgoekemffimaaJFnPlansManyReach
import Derived.Test.YtdbgoekemffimaaJFnPlansMany4
namespace Go.Proofs.Ytdbgoekemffimaa
set_option linter.unusedVariables false

theorem evalRun_app (s : Nat) (st : List Bool) (xs ys : List Int) : evalRun s st (xs ++ ys) = evalRun s (evalRun s st xs) ys := by simp [evalRun, List.foldl_append]
theorem bitB (s k : Nat) : (bit s k == 1) = s.testBit k := (testBit_bit s k).symm
theorem evalStep_fact (s : Nat) (st : List Bool) {x : Int} (h : x < 5) : evalStep s st x = s.testBit x.toNat :: st := by
  unfold evalStep
  rw [if_neg (by omega), if_neg (by omega), if_neg (by omega), if_neg (by omega), if_neg (by omega), bitB]
theorem evalStep_same (s s' : Nat) (st : List Bool) {x : Int} (h : 5 ≤ x) (h' : x ≤ 9) : evalStep s st x = evalStep s' st x := by
  unfold evalStep
  obtain rfl | rfl | rfl | rfl | rfl : x = 5 ∨ x = 6 ∨ x = 7 ∨ x = 8 ∨ x = 9 := by omega
  all_goals simp
theorem eval_turn (f s : Nat) : ∀ (xs : List Int) (st : List Bool), (∀ x ∈ xs, 0 ≤ x ∧ x ≤ 9) → evalRun (s ^^^ f) st (turnI f xs) = evalRun s st xs := by
  intro xs
  induction xs with
  | nil => intro st _; rfl
  | cons x xs ih =>
    intro st hx
    obtain ⟨h0, h9⟩ := hx x (List.mem_cons_self ..)
    have hr := fun st => ih st fun y hy => hx y (List.mem_cons_of_mem _ hy)
    rw [show turnI f (x :: xs) = turnOne f x ++ turnI f xs by simp [turnI], evalRun_app]
    have key : evalRun (s ^^^ f) st (turnOne f x) = evalStep s st x := by
      unfold turnOne
      by_cases h5 : x < 5
      · rw [evalStep_fact s st h5]
        by_cases hb : bit f x.toNat = 1
        · rw [if_pos ⟨h5, hb⟩]
          simp only [evalRun, List.foldl_cons, List.foldl_nil]
          rw [evalStep_fact _ st h5]
          have hf : f.testBit x.toNat = true := by rw [testBit_bit, hb]; rfl
          simp [evalStep, Nat.testBit_xor, hf]
        · rw [if_neg (fun h => hb h.2)]
          simp only [evalRun, List.foldl_cons, List.foldl_nil]
          rw [evalStep_fact _ st h5]
          have hf : f.testBit x.toNat = false := by rw [testBit_bit]; simpa using hb
          simp [Nat.testBit_xor, hf]
      · rw [if_neg (fun h => h5 h.1)]
        simp only [evalRun, List.foldl_cons, List.foldl_nil]
        exact evalStep_same _ _ st (by omega) h9
    rw [key, hr]
    rfl
theorem evalCode_turn (f s : Nat) (xs : List Int) (h : codeOk xs = true) : evalCode (turnI f xs) (s ^^^ f) = evalCode xs s := by
  unfold evalCode; rw [eval_turn f s xs [] (codeOk_in xs h)]
theorem andn_bit : ∀ x y : Fin 32, ∀ k : Fin 5, (x.val - (x.val &&& y.val)).testBit k.val = (x.val.testBit k.val && !y.val.testBit k.val) := by decide +kernel
theorem turnOn_bit : ∀ f a b : Fin 32, ∀ k : Fin 5, (turnOn f.val a.val b.val).testBit k.val = ((a.val.testBit k.val && !f.val.testBit k.val) || (b.val.testBit k.val && f.val.testBit k.val)) := by decide +kernel
theorem behind_bit (d : DeedD) (s k : Nat) (hs : s < 32) (h : deedOk d = true) (hk : k < 5) : (behind d s).testBit k = (((s.testBit k || d.on.toNat.testBit k) && !d.off.toNat.testBit k) ^^ d.flip.toNat.testBit k) := by
  obtain ⟨-, h1, h2, h3, -⟩ := deedOk_parts d h
  unfold behind
  have := andn_bit ⟨s ||| d.on.toNat, or_lt32 hs (by omega)⟩ ⟨d.off.toNat, by omega⟩ ⟨k, hk⟩
  simp only at this
  rw [Nat.testBit_xor, this, Nat.testBit_or]
theorem disj_bit {a b k : Nat} (h : a &&& b = 0) : (a.testBit k && b.testBit k) = false := by rw [← Nat.testBit_and, h, Nat.zero_testBit]
theorem ext5 {a b : Nat} (ha : a < 32) (hb : b < 32) (h : ∀ k, k < 5 → a.testBit k = b.testBit k) : a = b := by
  refine Nat.eq_of_testBit_eq fun k => ?_
  by_cases hk : k < 5
  · exact h k hk
  · rw [testBit_high (n := 5) ha hk, testBit_high (n := 5) hb hk]
theorem behind_turn (f : Nat) (d : DeedD) (s : Nat) (hf : f < 32) (hs : s < 32) (h : deedOk d = true) (h' : deedOk (turnD f d) = true) : behind (turnD f d) (s ^^^ f) = behind d s ^^^ f := by
  have hx : s ^^^ f < 32 := xor32 _ _ hs hf
  refine ext5 (behind_lt _ _ h' hx) (xor32 _ _ (behind_lt _ _ h hs) hf) fun k hk => ?_
  obtain ⟨-, h1, h2, h3, e1, e2, e3⟩ := deedOk_parts d h
  have d1 := disj_bit (k := k) e1
  have d2 := disj_bit (k := k) e2
  have d3 := disj_bit (k := k) e3
  have t1 := turnOn_bit ⟨f, hf⟩ ⟨d.on.toNat, by omega⟩ ⟨d.off.toNat, by omega⟩ ⟨k, hk⟩
  have t2 := turnOn_bit ⟨f, hf⟩ ⟨d.off.toNat, by omega⟩ ⟨d.on.toNat, by omega⟩ ⟨k, hk⟩
  simp only at t1 t2
  rw [behind_bit _ _ k hx h' hk, Nat.testBit_xor, Nat.testBit_xor, behind_bit d s k hs h hk]
  show ((((s.testBit k ^^ f.testBit k) || (((turnOn f d.on.toNat d.off.toNat : Nat) : Int).toNat).testBit k) && !(((turnOn f d.off.toNat d.on.toNat : Nat) : Int).toNat).testBit k) ^^ d.flip.toNat.testBit k) = _
  rw [Int.toNat_natCast, Int.toNat_natCast, t1, t2]
  revert d1 d2 d3
  cases s.testBit k <;> cases f.testBit k <;> cases d.on.toNat.testBit k <;> cases d.off.toNat.testBit k <;> cases d.flip.toNat.testBit k <;> simp
theorem deedDo_turn (f : Nat) (d : DeedD) (s : Nat) (hf : f < 32) (hs : s < 32) (h : deedOk d = true) (h' : deedOk (turnD f d) = true) : deedDo (turnD f d) (s ^^^ f) = (deedDo d s).map (· ^^^ f) := by
  unfold deedDo
  have : evalCode (turnD f d).need (s ^^^ f) = evalCode d.need s := evalCode_turn f s d.need (deedOk_parts d h).1
  rw [this]
  split
  · rw [behind_turn f d s hf hs h h']; rfl
  · rfl
theorem turnOk_parts {t : TaskD} {f : Int} (h : turnOk t f = true) : taskOk t = true ∧ (0 ≤ f ∧ f < 32) ∧ taskOk (turnT f.toNat t) = true := by
  unfold turnOk at h
  simp only [Bool.and_eq_true] at h
  exact ⟨h.1.1, (stIn_iff f).1 h.1.2, h.2⟩
theorem iso_turn {t : TaskD} {f : Nat} (hf : f < 32) (h : taskOk t = true) (h' : taskOk (turnT f t) = true) : Iso t.deeds (turnD f) (· ^^^ f) :=
  ⟨fun s hs => xor32 _ _ hs hf, fun d hd s hs => deedDo_turn f d s hf hs ((taskOk_parts t h).2.2.2 d hd) ((taskOk_parts _ h').2.2.2 _ (List.mem_map.2 ⟨d, hd, rfl⟩))⟩
theorem turn_start {t : TaskD} {f : Nat} : (turnT f t).start.toNat = t.start.toNat ^^^ f := by simp [turnT]
theorem planFor_turn {t : TaskD} {f : Nat} (hf : f < 32) (h : taskOk t = true) (h' : taskOk (turnT f t) = true) : planFor (turnT f t) = planFor t := by
  have hp := taskOk_parts t h
  unfold planFor
  rw [if_pos h, if_pos h', turn_start]
  exact (iso_turn hf h h').planOf hp.2.2.2 (fun s hs => evalCode_turn f s t.goal hp.2.1) (by omega)
theorem fwd_turn {t : TaskD} {f : Nat} (hf : f < 32) (h : taskOk t = true) (h' : taskOk (turnT f t) = true) {s : Nat} (hs : s < 32) : fwd (turnT f t).deeds (only (turnT f t).start.toNat) 32 (s ^^^ f) = fwd t.deeds (only t.start.toNat) 32 s := by
  have hp := taskOk_parts t h
  rw [turn_start]
  refine (iso_turn hf h h').fwd hp.2.2.2 (fun s t hs ht e => ?_) (fun s hs => ⟨s ^^^ f, xor32 _ _ hs hf, ?_⟩) (fun s hs => ?_) 32 s hs
  · have := congrArg (· ^^^ f) e
    simpa [Nat.xor_assoc] using this
  · simp [Nat.xor_assoc]
  · unfold only
    rw [Bool.eq_iff_iff]
    simp only [decide_eq_true_eq]
    constructor
    · intro e
      have := congrArg (· ^^^ f) e
      simpa [Nat.xor_assoc] using this
    · intro e; rw [e]
end Go.Proofs.Ytdbgoekemffimaa
