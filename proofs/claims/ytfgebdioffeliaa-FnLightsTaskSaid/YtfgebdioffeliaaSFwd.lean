/- Joined texts: Fwd, NextW, StepsOn, Reach, Count, RTask, PlansW, RingsP, PermD. -/
import Derived.Test.YtfgebdioffeliaaSStatesBack
import Derived.Test.YtfgebdioffeliaaSBack
import Derived.Test.YtfgebdioffeliaaSSteps
import Derived.Test.YtfgebdioffeliaaSPlanForW
import Derived.Test.YtfgebdioffeliaaSTold
import Derived.Test.YtfgebdioffeliaaSNum
import Derived.Test.YtfgebdioffeliaaSTurn
import Derived.Test.YtfgebdioffeliaaSFront
import Derived.Test.YtfgebdioffeliaaSTDraw
import Derived.Test.YtfgebdioffeliaaSBValid
/- Plain law: the search forward, layer by layer, and ways counted forward and backward; no program in sight. -/
namespace Go.Proofs.Ytfgebdioffeliaa
set_option linter.unusedVariables false
set_option linter.unusedSimpArgs false

def dstN (ds : List DeedD) (S : Nat → Bool) : Nat → Nat → Int
  | 0, s => if S s then 0 else -1
  | n + 1, s => if fwd ds S n s then dstN ds S n s else if fwdP ds (fwd ds S n) s then ((n + 1 : Nat) : Int) else -1
def dstV (ds : List DeedD) (S : Nat → Bool) (s : Nat) : Int := dstN ds S 32 s
/-- nothing is added any more -/
def ffixedAt (ds : List DeedD) (S : Nat → Bool) (n : Nat) : Prop := ∀ s, s < 32 → fwdP ds (fwd ds S n) s = true → fwd ds S n s = true
section
variable {ds : List DeedD} {S : Nat → Bool}
end
end Go.Proofs.Ytfgebdioffeliaa

/- nextStates of the program: one step of the search forward. -/
namespace Go.Proofs.Ytfgebdioffeliaa
set_option linter.unusedVariables false
set_option linter.unusedSimpArgs false
open Go.ChangeShapes Go.WideShapes Go.ChangeAt Go.RowKit

/-- the deed leads from a state of the set below m to s -/
def hitF (d : DeedD) (S m s : Nat) : Bool := (List.range m).any fun s' => bit S s' == 1 && deedDo d s' == some s
def partF (ds : List DeedD) (d : DeedD) (S m : Nat) (s : Nat) : Bool := fwdP ds (setP S) s || hitF d S m s
end Go.Proofs.Ytfgebdioffeliaa

/- stepsOn of the program: for each state the least number of deeds from a state. -/
namespace Go.Proofs.Ytfgebdioffeliaa
set_option linter.unusedVariables false
set_option linter.unusedSimpArgs false
open Go.ChangeShapes Go.WideShapes Go.ChangeAt Go.RowKit

def only (s0 : Nat) : Nat → Bool := fun s => decide (s0 = s)
/-- the least numbers of deeds -/
def distL (ds : List DeedD) (p : Nat → Bool) : List Int := (List.range 32).map (dstV ds p)
/-- what is new -/
def freshF (ds : List DeedD) (p : Nat → Bool) (m : Nat) : Nat → Bool := fun s => fwdP ds (fwd ds p m) s && !fwd ds p m s
end Go.Proofs.Ytfgebdioffeliaa

/- Reached, LeadsTo, StepsLeast, StepsFrom and DeedDo of the program. Printed by gen_reach.py. -/
namespace Go.Proofs.Ytfgebdioffeliaa
set_option linter.unusedVariables false
set_option linter.unusedSimpArgs false
open Go.ChangeShapes Go.WideShapes Go.ChangeAt Go.RowKit

def reached (t : TaskD) : Int := if taskOk t then (mset (fwd t.deeds (only t.start.toNat) 32) 32 : Nat) else -1
def leadsTo (t : TaskD) : Int := if taskOk t then (mset (layer t.deeds (evalCode t.goal) 32) 32 : Nat) else -1
def stepsLeast (t : TaskD) : List Int := if taskOk t then stepsL t.deeds (evalCode t.goal) else []
def stepsFrom (t : TaskD) : List Int := if taskOk t then distL t.deeds (only t.start.toNat) else []
def deedDoZ (d : DeedD) (s : Int) : Int := if deedOk d = true ∧ stIn s = true then opt (deedDo d s.toNat) else -1
theorem deedDo_impl (A : Option Addr) (n c : Nat) (d : DeedD) (s : Int) (w : World) (h : RdI .i64 w w.heap.size A n c d.need) :
    Calls Try.prog 9 #[.agg #[.slice A n c, .int .i64 d.on, .int .i64 d.off, .int .i64 d.flip], .int .i64 s] w fun e w' => e = .returned (.int .i64 (deedDoZ d s)) ∧ Below w.heap.size w w' := by
  have HS0 := Lib.hid ((St.refl w).alloc #[.slice A n c, .int .i64 d.on, .int .i64 d.off, .int .i64 d.flip] 36)
  have H := Lib.hid h
  clear h
  obtain ⟨bo, hok⟩ : ∃ b, deedOk d = b := ⟨_, rfl⟩
  obtain ⟨bs, hs⟩ : ∃ b, stIn s = b := ⟨_, rfl⟩
  have HV : deedOk d = false ∨ stIn s = false → deedDoZ d s = -1 := fun h => if_neg (by rintro ⟨h1, h2⟩; rcases h with h | h <;> simp_all)
  have HOK := Bx.mk hok
  have HS := Bx.mk hs
  cases bo with
  | false =>
    have HV := Bx.mk (HV (.inl hok))
    clear hok hs
    go_enter Try.func9, Try.ntmps9
    go_wp2_with fail
    refine (deedValid_impl A n c d _ (H.out.up HS0.out.below)).mono ?_
    rw [HOK.out]
    rintro e w1 ⟨rfl, hb1⟩
    have HB := Lib.hid (HS0.out.quiet hb1).below
    clear hb1
    go_wp2
    go_ret
    exact ⟨ret_int HV.out.symm, HB.out⟩
  | true =>
    cases bs with
    | false =>
      have HV := Bx.mk (HV (.inr hs))
      clear hok hs
      go_enter Try.func9, Try.ntmps9
      go_wp2_with fail
      refine (deedValid_impl A n c d _ (H.out.up HS0.out.below)).mono ?_
      rw [HOK.out]
      rintro e w1 ⟨rfl, hb1⟩
      have HB := Lib.hid (HS0.out.quiet hb1).below
      clear hb1
      go_wp2_with fail
      refine (stateOk_any s _).mono ?_
      rw [HS.out]
      rintro e w2 ⟨rfl, rfl⟩
      go_wp2
      go_ret
      exact ⟨ret_int HV.out.symm, HB.out⟩
    | true =>
      obtain ⟨h0, h1⟩ := (stIn_iff s).1 hs
      obtain ⟨m, rfl⟩ := Int.eq_ofNat_of_zero_le h0
      have hm : m < 32 := by omega
      have HV : Bx (deedDoZ d (m : Int) = opt (deedDo d m)) := Bx.mk (by unfold deedDoZ; rw [if_pos ⟨hok, hs⟩, Int.toNat_natCast])
      clear hok hs h0 h1
      go_enter Try.func9, Try.ntmps9
      go_wp2_with fail
      refine (deedValid_impl A n c d _ (H.out.up HS0.out.below)).mono ?_
      rw [HOK.out]
      rintro e w1 ⟨rfl, hb1⟩
      have HS1 := Lib.hid (HS0.out.quiet hb1)
      clear hb1
      go_wp2_with fail
      refine (stateOk_any (m : Int) _).mono ?_
      rw [HS.out]
      rintro e w2 ⟨rfl, rfl⟩
      have q1 : ∀ j, w1.cell? ⟨w.heap.size, j, none⟩ = _ := HS1.out.cells 0 rfl
      go_wp2_with fail
      refine (behindDeed_any A n c d m _ (H.out.up HS1.out.below) HOK.out hm).mono ?_
      rintro e w3 ⟨rfl, hb3⟩
      have HB := Lib.hid (HS1.out.quiet hb3).below
      clear hb3
      go_wp2
      go_ret
      exact ⟨ret_int HV.out.symm, HB.out⟩
end Go.Proofs.Ytfgebdioffeliaa

/- Plain law: ways counted forward, state by state, are as many as counted backward; no program in sight. -/
namespace Go.Proofs.Ytfgebdioffeliaa
set_option linter.unusedVariables false
set_option linter.unusedSimpArgs false

def sumR : Nat → (Nat → Int) → Int
  | 0, _ => 0
  | n + 1, f => sumR n f + f n
def sumL {α : Type} (l : List α) (f : α → Int) : Int := (l.map f).sum
theorem sumL_cons {α : Type} (a : α) (l : List α) (f : α → Int) : sumL (a :: l) f = f a + sumL l f := rfl
theorem sumL_congr {α : Type} {l : List α} {f g : α → Int} (h : ∀ a ∈ l, f a = g a) : sumL l f = sumL l g := by unfold sumL; rw [List.map_congr_left h]
theorem sumL_zero {α : Type} {l : List α} {f : α → Int} (h : ∀ a ∈ l, f a = 0) : sumL l f = 0 := by
  induction l with
  | nil => rfl
  | cons b l ih => rw [sumL_cons, h b (List.mem_cons_self ..), ih fun a ha => h a (List.mem_cons_of_mem _ ha)]; rfl
/-- in how many ways n deeds lead from s0 to s -/
def fwN (ds : List DeedD) (s0 : Nat) : Nat → Nat → Int
  | 0, s => if s = s0 then 1 else 0
  | n + 1, s => sumR 32 fun s' => sumL ds fun d => if deedDo d s' = some s then fwN ds s0 n s' else 0
theorem waysN_succ (ds : List DeedD) (S : Nat → Bool) (n s : Nat) : waysN ds S (n + 1) s = sumL ds fun d => match deedDo d s with
    | some s' => waysN ds S n s'
    | none => 0 := rfl
section
variable {ds : List DeedD} {S : Nat → Bool} {s0 : Nat}
/-! ### distances -/
end
/-! ### the rounds of the program -/
def wrap (x : Int) : Int := (x + 9223372036854775808) % 18446744073709551616 - 9223372036854775808
/-- what the deed d adds from s' on to s in the round k -/
def addN (ds : List DeedD) (s0 k : Nat) (s' s : Nat) (d : DeedD) : Int := if dstV ds (only s0) s' = (k : Int) ∧ deedDo d s' = some s then fwN ds s0 k s' else 0
/-- ways in the round k, behind st states and the first j deeds of the next -/
def partN (ds : List DeedD) (s0 k st j s : Nat) : Int := sumR st (fun s' => sumL ds (addN ds s0 k s' s)) + sumL (ds.take j) (addN ds s0 k st s)
def waysW (ds : List DeedD) (s0 k st j s : Nat) : Int :=
  if dstV ds (only s0) s = ((k + 1 : Nat) : Int) then wrap (partN ds s0 k st j s) else if 0 ≤ dstV ds (only s0) s ∧ dstV ds (only s0) s ≤ k then wrap (fwN ds s0 (dstV ds (only s0) s).toNat s) else 0
section
variable {ds : List DeedD} {S : Nat → Bool} {s0 : Nat}
end
end Go.Proofs.Ytfgebdioffeliaa

/- RingsTask of the program and of the reference: each returns one plain task, for every argument. -/
namespace Go.Proofs.Ytfgebdioffeliaa
open Go.ChangeShapes Go.WideShapes Go.ChangeAt Go.RowKit

def needParts (k : Nat) : List (List Int) := if k = 0 then [] else [(k : Int) - 1] :: noneParts (k - 1)
def needI (k : Nat) : Nat → List Int
  | 0 => [(k : Int) - 1]
  | m + 1 => needI k m ++ [(m : Int), 7, 8]
def ringDeed (k : Nat) : DeedD := ⟨codeAll (needParts k), 0, 0, 2 ^ k⟩
def ringDeeds (m : Nat) : List DeedD := (List.range m).map ringDeed
def ringsTask (r s : Int) : TaskD := if ringsIn r s = true then ⟨s, codeAll (noneParts r.toNat), ringDeeds r.toNat⟩ else ⟨0, [], []⟩

def partsJ (k j : Nat) : List (List Int) := (if k = 0 then [] else [[(k : Int) - 1]]) ++ noneParts j
end Go.Proofs.Ytfgebdioffeliaa

/- PlansMany of the program. Printed by gen_plans.py. -/
namespace Go.Proofs.Ytfgebdioffeliaa
set_option linter.unusedVariables false
set_option linter.unusedSimpArgs false
open Go.ChangeShapes Go.WideShapes Go.ChangeAt Go.RowKit

/-- an array of numbers -/
def arrF (f : Nat → Int) : List Value := (List.range 32).map fun s => .int .i64 (f s)
def plansMany (t : TaskD) : Int := if taskOk t then (if stpV t.deeds (evalCode t.goal) t.start.toNat < 0 then 0 else wrap (waysN t.deeds (evalCode t.goal) (stpV t.deeds (evalCode t.goal) t.start.toNat).toNat t.start.toNat)) else -1
end Go.Proofs.Ytfgebdioffeliaa

/- Plain law: the rings come off in as many deeds as their place, in one way; no program in sight. -/
namespace Go.Proofs.Ytfgebdioffeliaa
set_option linter.unusedVariables false
set_option linter.unusedSimpArgs false

/-- a measure of states that a deed turns by one at most, and some deed turns down -/
structure Pot (ds : List DeedD) (S : Nat → Bool) (Q : Nat → Prop) (f : Nat → Nat) : Prop where
  stay : ∀ s, Q s → ∀ d ∈ ds, ∀ s', deedDo d s = some s' → Q s'
  goal : ∀ s, Q s → (S s = true ↔ f s = 0)
  near : ∀ s, Q s → ∀ d ∈ ds, ∀ s', deedDo d s = some s' → f s ≤ f s' + 1
  down : ∀ s, Q s → f s ≠ 0 → ∃ d ∈ ds, ∃ s', deedDo d s = some s' ∧ f s' + 1 = f s
section
variable {ds : List DeedD} {S : Nat → Bool} {Q : Nat → Prop} {f : Nat → Nat}
theorem Pot.layer (h : Pot ds S Q f) (n : Nat) : ∀ s, Q s → (layer ds S n s = true ↔ f s ≤ n) := by
  induction n with
  | zero => intro s hs; simp only [Go.Proofs.Ytfgebdioffeliaa.layer]; rw [h.goal s hs]; omega
  | succ n ih =>
    intro s hs
    simp only [Go.Proofs.Ytfgebdioffeliaa.layer, Bool.or_eq_true]
    rw [ih s hs, backP_iff]
    constructor
    · rintro (h1 | ⟨d, hd, s', e, h1⟩)
      · omega
      · have := (ih s' (h.stay s hs d hd s' e)).1 h1
        have := h.near s hs d hd s' e
        omega
    · intro h1
      by_cases h2 : f s ≤ n
      · exact .inl h2
      · obtain ⟨d, hd, s', e, h3⟩ := h.down s hs (by omega)
        exact .inr ⟨d, hd, s', e, (ih s' (h.stay s hs d hd s' e)).2 (by omega)⟩
theorem Pot.stp (h : Pot ds S Q f) {s : Nat} (hs : Q s) (h32 : f s ≤ 32) : stpV ds S s = (f s : Int) :=
  stpN_eq h32 ((h.layer (f s) s hs).2 (Nat.le_refl _)) fun m hm => by
    cases e : Go.Proofs.Ytfgebdioffeliaa.layer ds S m s with
    | false => rfl
    | true => have := (h.layer m s hs).1 e; omega
theorem Pot.short (h : Pot ds S Q f) (n : Nat) : ∀ s, Q s → n < f s → waysN ds S n s = 0 := by
  induction n with
  | zero =>
    intro s hs hn
    have := h.goal s hs
    simp only [waysN]
    rw [if_neg (fun e => by have := this.1 e; omega)]
  | succ n ih =>
    intro s hs hn
    rw [waysN_succ]
    refine sumL_zero fun d hd => ?_
    cases e : deedDo d s with
    | none => rfl
    | some s' => exact ih s' (h.stay s hs d hd s' e) (by have := h.near s hs d hd s' e; omega)
theorem Pot.one (h : Pot ds S Q f) (hone : ∀ s, Q s → f s ≠ 0 → sumL ds (fun d => match deedDo d s with | some s' => if f s' + 1 = f s then 1 else 0 | none => 0) = 1) (n : Nat) : ∀ s, Q s → f s = n → waysN ds S n s = 1 := by
  induction n with
  | zero => intro s hs hn; simp only [waysN]; rw [if_pos ((h.goal s hs).2 hn)]
  | succ n ih =>
    intro s hs hn
    rw [waysN_succ, ← hone s hs (by omega)]
    refine sumL_congr fun d hd => ?_
    cases e : deedDo d s with
    | none => rfl
    | some s' =>
      have hq := h.stay s hs d hd s' e
      have hn1 := h.near s hs d hd s' e
      simp only
      by_cases h1 : f s' + 1 = f s
      · rw [if_pos h1]; exact ih s' hq (by omega)
      · rw [if_neg h1]; exact h.short n s' hq (by omega)
end
/-- the place of a state -/
def placeN (s : Nat) : Nat := (grayPlace (s : Int)).toNat
def ringS (r : Nat) : Nat → Bool := evalCode (codeAll (noneParts r))
/-- all that is asked of r rings at the state s, reckoned -/
def ringCheck (r s : Nat) : Bool :=
  (ringDeeds r).all (fun d => match deedDo d s with | some s' => decide (s' < 2 ^ r) && decide (placeN s ≤ placeN s' + 1) | none => true) &&
  (ringS r s == decide (placeN s = 0)) &&
  (decide (placeN s = 0) || ((ringDeeds r).any (fun d => match deedDo d s with | some s' => decide (placeN s' + 1 = placeN s) | none => false) &&
    decide (sumL (ringDeeds r) (fun d => match deedDo d s with | some s' => if placeN s' + 1 = placeN s then 1 else 0 | none => 0) = 1))) &&
  decide (placeN s ≤ 31) && decide ((placeN s : Int) = grayPlace (s : Int))
end Go.Proofs.Ytfgebdioffeliaa

/- l20Perm within a list of things: it draws a row of small numbers. -/
namespace Go.Proofs.Ytfgebdioffeliaa
set_option linter.unusedVariables false
set_option linter.unusedSimpArgs false
open Go.ChangeShapes Go.WideShapes Go.ChangeAt Go.RowKit

end Go.Proofs.Ytfgebdioffeliaa
