/- Joined texts: Rest, Iso, Acts, EndActs. -/
import Derived.Test.YtkmcengmglgdeaaGreatDoorSPlanForS
import Derived.Test.YtkmcengmglgdeaaGreatDoorSBValid
import Derived.Test.YtkmcengmglgdeaaGreatDoorSSearch
/- taskFrom and RestFor, of the program and of the reference. -/
namespace Go.Proofs.YtkmcengmglgdeaaGreatDoor
set_option linter.unusedVariables false
set_option linter.unusedSimpArgs false
open Go.ChangeShapes Go.WideShapes Go.ChangeAt Go.RowKit

/-- the task of a book that begins with its state -/
def taskFrom (b : BookD) : TaskD := ⟨b.state, b.order.goal, b.order.deeds⟩
def restFor (b : BookD) : Option (List Int) := if bookOk b then planFor (taskFrom b) else none
theorem restFor_no (b : BookD) (h : bookOk b = false) : restFor b = none := if_neg (by rw [h]; simp)
theorem restFor_yes (b : BookD) (h : bookOk b = true) : restFor b = planFor (taskFrom b) := if_pos h
theorem RdBM.from_ {w : World} {B : Nat} {s st : Int} {x y z : Value} {b : BookD} (h : RdBM 1048576 w B (.agg #[.int .i64 s, x, y, z, .int .i64 st]) b) (hst : st = b.state) : RdTM 1048576 w B (.agg #[.int .i64 st, x, y]) (taskFrom b) := by
 obtain ⟨A, n, c, A', n', c', e, h1, h2, h3, h4⟩ := h.order
 simp only [Value.agg.injEq, Array.mk.injEq, List.cons.injEq, and_true, true_and] at e
 obtain ⟨-, rfl, rfl⟩ := e
 obtain ⟨A2, n2, c2, A3, n3, c3, A4, n4, c4, e⟩ := h.form
 simp only [Value.agg.injEq, Array.mk.injEq, List.cons.injEq, and_true, true_and] at e
 obtain ⟨-, -, -, rfl, -⟩ := e
 subst hst
 exact ⟨A, n, c, A', n', c', rfl, h1, h2, h3, h.done.2.2.1⟩
set_option maxRecDepth 100000 in
theorem taskFrom_any (s st : Int) (A : Option Addr) (n c : Nat) (A' : Option Addr) (n' c' : Nat) (A2 : Option Addr) (n2 c2 : Nat) (w : World) :
  Calls Tryz.prog 70 #[.agg #[.int .i64 s, .slice A n c, .slice A' n' c', .slice A2 n2 c2, .int .i64 st]] w fun e w' => e = .returned (.agg #[.int .i64 st, .slice A n c, .slice A' n' c']) ∧ Below w.heap.size w w' := by
 go_enter Tryz.func70, Tryz.ntmps70
 go_wp2
 refine bodyPost_ret (v := .agg #[.int .i64 st, .slice A n c, .slice A' n' c']) (by simp [results, Tryz.results70, go_sem]) rfl ⟨rfl, ?_⟩
 repeat' (first | with_reducible exact Below.refl _ _ | with_reducible refine Below.setCell ?_ ?_ _ | with_reducible refine Below.alloc ?_ ?_ _)
 all_goals (simp; try omega)
set_option maxRecDepth 100000 in
theorem restFor_impl (v : Value) (b : BookD) (w : World) (h : RdB w w.heap.size v b) :
  Calls Tryz.prog 15 #[v] w (Gives w (fun v => .tuple #[v, .bool (restFor b).isSome]) fun v => [rInts v ((restFor b).getD [])]) := by
 have h' := h
 obtain ⟨A, n, c, A', n', c', A2, n2, c2, hv⟩ := h.form
 subst hv
 have S0 := (St.refl w).alloc #[.int .i64 b.order.start, .slice A n c, .slice A' n' c', .slice A2 n2 c2, .int .i64 b.state] 28
 have HB := Lib.hid h'
 have HS0 := Lib.hid S0
 clear S0 h h'
 obtain ⟨bo, hok⟩ : ∃ x, bookOk b = x := ⟨_, rfl⟩
 have HOK := Lib.hid hok
 clear hok
 cases bo with
 | false =>
  have HN := Bx.mk (restFor_no b HOK.out)
  go_enter Tryz.func15, Tryz.ntmps15
  go_wp2_with fail
  refine (bookValid_impl _ b _ (HB.out.up HS0.out.below)).mono ?_
  rw [HOK.out]
  rintro e w1 ⟨rfl, hb1⟩
  have HBE := Lib.hid (HS0.out.quiet hb1).below
  clear hb1
  go_wp2
  refine bodyPost_ret (v := .tuple #[.slice none 0 0, .bool false]) (by simp [results, Tryz.results15, go_sem]) rfl ⟨.slice none 0 0, by rw [HN.out]; rfl, ?_⟩
  rw [HN.out]
  exact rInts_nil w _ HBE.out
 | true =>
  have HY := Bx.mk (restFor_yes b HOK.out)
  go_enter Tryz.func15, Tryz.ntmps15
  go_wp2_with fail
  refine (bookValid_impl _ b _ (HB.out.up HS0.out.below)).mono ?_
  rw [HOK.out]
  rintro e w1 ⟨rfl, hb1⟩
  have HS1 := Lib.hid (HS0.out.quiet hb1)
  have q1 : ∀ j, w1.cell? ⟨w.heap.size, j, none⟩ = _ := HS1.out.cells 0 rfl
  clear hb1
  go_wp2_with fail
  refine (taskFrom_any b.order.start b.state A n c A' n' c' A2 n2 c2 _).mono ?_
  rintro e w2 ⟨rfl, hb2⟩
  have HS2 := Lib.hid (HS1.out.quiet hb2)
  clear hb2 q1
  go_wp2_with fail
  refine (planFor_impl _ (taskFrom b) _ ((HB.out.from_ rfl).up HS2.out.below)).mono ?_
  rintro e w3 ⟨v3, rfl, s3⟩
  have HS3 := Lib.hid (HS2.out.call s3)
  clear s3
  go_wp2
  refine bodyPost_ret (v := .tuple #[v3, .bool (planFor (taskFrom b)).isSome]) (by simp [results, Tryz.results15, go_sem]) rfl ⟨v3, by rw [HY.out], ?_⟩
  rw [HY.out]
  exact HS3.out.pick [1] (by decide) rfl rfl
set_option maxRecDepth 100000 in
theorem restFor_spec (v : Value) (b : BookD) (w : World) (h : RdB w w.heap.size v b) :
  Calls Tryz.prog 53 #[v] w (Gives w (fun v => .tuple #[v, .bool (restFor b).isSome]) fun v => [rInts v ((restFor b).getD [])]) := by
 have h' := h
 obtain ⟨A, n, c, A', n', c', A2, n2, c2, hv⟩ := h.form
 subst hv
 have S0 := (St.refl w).alloc #[.int .i64 b.order.start, .slice A n c, .slice A' n' c', .slice A2 n2 c2, .int .i64 b.state] 28
 have HB := Lib.hid h'
 have HS0 := Lib.hid S0
 clear S0 h h'
 obtain ⟨bo, hok⟩ : ∃ x, bookOk b = x := ⟨_, rfl⟩
 have HOK := Lib.hid hok
 clear hok
 cases bo with
 | false =>
  have HN := Bx.mk (restFor_no b HOK.out)
  go_enter Tryz.func53, Tryz.ntmps53
  go_wp2_with fail
  refine (bookValid_spec _ b _ (HB.out.up HS0.out.below)).mono ?_
  rw [HOK.out]
  rintro e w1 ⟨rfl, hb1⟩
  have HS1 := Lib.hid ((HS0.out.quiet hb1).call (St.newI w1 _ rfl))
  clear hb1
  go_wp2
  refine bodyPost_ret (v := .tuple #[.slice (some ⟨w1.heap.size, 0, none⟩) 0 0, .bool false]) (by simp [results, Tryz.results53, go_sem]) rfl ⟨.slice (some ⟨w1.heap.size, 0, none⟩) 0 0, by rw [HN.out]; rfl, ?_⟩
  rw [HN.out]
  exact HS1.out.pick [1] (by decide) rfl rfl
 | true =>
  have HY := Bx.mk (restFor_yes b HOK.out)
  go_enter Tryz.func53, Tryz.ntmps53
  go_wp2_with fail
  refine (bookValid_spec _ b _ (HB.out.up HS0.out.below)).mono ?_
  rw [HOK.out]
  rintro e w1 ⟨rfl, hb1⟩
  have HS1 := Lib.hid (HS0.out.quiet hb1)
  have q1 : ∀ j, w1.cell? ⟨w.heap.size, j, none⟩ = _ := HS1.out.cells 0 rfl
  clear hb1
  go_wp2_with fail
  refine (planFor_spec _ (taskFrom b) _ ((HB.out.from_ rfl).up HS1.out.below)).mono ?_
  rintro e w3 ⟨v3, rfl, s3⟩
  have HS3 := Lib.hid (HS1.out.call s3)
  clear s3
  go_wp2
  refine bodyPost_ret (v := .tuple #[v3, .bool (planFor (taskFrom b)).isSome]) (by simp [results, Tryz.results53, go_sem]) rfl ⟨v3, by rw [HY.out], ?_⟩
  rw [HY.out]
  exact HS3.out.pick [1] (by decide) rfl rfl
end Go.Proofs.YtkmcengmglgdeaaGreatDoor

/- Plain law: two tasks whose states answer each other one to one: the same steps, plans and numbers of ways; no program in sight. -/
namespace Go.Proofs.YtkmcengmglgdeaaGreatDoor
set_option linter.unusedVariables false
set_option linter.unusedSimpArgs false

/-- in how many ways n deeds lead from s into S -/
def waysN (ds : List DeedD) (S : Nat → Bool) : Nat → Nat → Int
 | 0, s => if S s then 1 else 0
 | n + 1, s => (ds.map fun d => match deedDo d s with
  | some s' => waysN ds S n s'
  | none => 0).sum
structure Iso (ds : List DeedD) (g : DeedD → DeedD) (f : Nat → Nat) : Prop where
 lt : ∀ s, s < 32 → f s < 32
 do_ : ∀ d ∈ ds, ∀ s, s < 32 → deedDo (g d) (f s) = (deedDo d s).map f
section
variable {ds : List DeedD} {g : DeedD → DeedD} {f : Nat → Nat} {S T : Nat → Bool}
end
/-! ### forward -/
/-- what is reached from s0 by at most n deeds -/
def fwdP (ds : List DeedD) (S : Nat → Bool) (s : Nat) : Bool := (List.range 32).any fun s' => S s' && ds.any fun d => deedDo d s' == some s
def fwd (ds : List DeedD) (S : Nat → Bool) : Nat → Nat → Bool
 | 0, s => S s
 | n + 1, s => fwd ds S n s || fwdP ds (fwd ds S n) s
section
variable {ds : List DeedD} {g : DeedD → DeedD} {f : Nat → Nat} {S T : Nat → Bool}
end
end Go.Proofs.YtkmcengmglgdeaaGreatDoor

/- Rows of acts: in memory, compared, marked. -/
namespace Go.Proofs.YtkmcengmglgdeaaGreatDoor
set_option linter.unusedVariables false
set_option linter.unusedSimpArgs false
open Go.ChangeShapes Go.WideShapes Go.ChangeAt Go.RowKit

def flatA (aa : List ActD) : List Int := aa.flatMap fun a => [a.kind, a.number]
theorem flatA_cons (a : ActD) (aa : List ActD) : flatA (a :: aa) = a.kind :: a.number :: flatA aa := rfl
theorem flatA_append (aa bs : List ActD) : flatA (aa ++ bs) = flatA aa ++ flatA bs := by simp [flatA]
theorem flatA_len (aa : List ActD) : (flatA aa).length = aa.length * 2 := by
 induction aa with
 | nil => rfl
 | cons a aa ih => rw [flatA_cons]; simp only [List.length_cons, ih]; omega
theorem flatA_at (aa : List ActD) (i : Nat) (a : ActD) (h : aa[i]? = some a) : (flatA aa)[i * 2]? = some a.kind ∧ (flatA aa)[i * 2 + 1]? = some a.number := by
 induction aa generalizing i with
 | nil => simp at h
 | cons x aa ih =>
  rw [flatA_cons]
  cases i with
  | zero => simp at h; subst h; exact ⟨rfl, rfl⟩
  | succ i =>
   simp only [List.getElem?_cons_succ] at h
   obtain ⟨h1, h2⟩ := ih i h
   rw [show (i + 1) * 2 = i * 2 + 1 + 1 by omega]
   simp only [List.getElem?_cons_succ]
   exact ⟨h1, h2⟩
/-- a row of acts of the call's own -/
def rActs (v : Value) (aa : List ActD) : HRes := rRow 64 2 v aa.length (ints (flatA aa))
/-- a row of acts that is read -/
def RdA (w : World) (B : Nat) (A : Option Addr) (n c : Nat) (aa : List ActD) : Prop := aa.length = n ∧ RdRow w B 2 A n c (ints (flatA aa))
theorem RdA.get {w : World} {B n c i : Nat} {A : Option Addr} {aa : List ActD} (h : RdA w B A n c aa) (hi : i < n) : ∃ b off a, A = some ⟨b, off, none⟩ ∧ b < B ∧ aa[i]? = some a ∧ w.cell? ⟨b, off + i * 2, none⟩ = some (.int .i64 a.kind) ∧ w.cell? ⟨b, off + i * 2 + 1, none⟩ = some (.int .i64 a.number) := by
 obtain ⟨b, off, e, hb, hc⟩ := h.2.at_ (by omega)
 have hl := h.1
 have ha : aa[i]? = some (aa[i]'(by omega)) := List.getElem?_eq_getElem _
 obtain ⟨h1, h2⟩ := flatA_at aa i _ ha
 refine ⟨b, off, _, e, hb, ha, hc (i * 2) _ ?_, ?_⟩
 ·unfold ints; rw [List.getElem?_map, h1]; rfl
 ·rw [Nat.add_assoc]
  refine hc (i * 2 + 1) _ ?_
  unfold ints; rw [List.getElem?_map, h2]; rfl
theorem RdA.up {w w' : World} {A : Option Addr} {n c : Nat} {aa : List ActD} (h : RdA w w.heap.size A n c aa) (hb : Below w.heap.size w w') : RdA w' w'.heap.size A n c aa := ⟨h.1, h.2.up hb⟩
theorem St.rdA {w W : World} {L : List HRes} (h : St w W L) (i : Nat) {v : Value} {aa : List ActD} (hi : L[i]? = some (rActs v aa)) : ∃ A c, v = .slice A aa.length c ∧ RdA W W.heap.size A aa.length c aa := by
 obtain ⟨A, c, hv, hr⟩ := h.rdRow i hi
 exact ⟨A, c, hv, rfl, hr⟩
theorem St.rdA' {w W : World} {L : List HRes} (h : St w W L) (i : Nat) {A : Option Addr} {n c : Nat} {aa : List ActD} (hi : L[i]? = some (rActs (.slice A n c) aa)) : RdA W W.heap.size A n c aa := by
 obtain ⟨A', c', hv, hr⟩ := h.rdA i hi
 simp only [Value.slice.injEq] at hv
 obtain ⟨rfl, rfl, rfl⟩ := hv
 exact hr
def markAS (k n : Nat) : List ActD := (List.range n).map fun i => ⟨((k + 2 * i : Nat) : Int), ((k + 2 * i + 1 : Nat) : Int)⟩
/-- the first i marked -/
def mixA (k : Nat) (aa : List ActD) (i : Nat) : List ActD := markAS k i ++ aa.drop i
end Go.Proofs.YtkmcengmglgdeaaGreatDoor

/- EndActs, of the program and of the reference. Printed by gen_endacts.py. -/
namespace Go.Proofs.YtkmcengmglgdeaaGreatDoor
set_option linter.unusedVariables false
set_option linter.unusedSimpArgs false
open Go.ChangeShapes Go.WideShapes Go.ChangeAt Go.RowKit

def backs (b : BookD) : Bool := decide (0 < b.done.length) && ((restFor b).isNone || decide (40 < b.done.length + ((restFor b).getD []).length))
def endOf (b : BookD) : Int := if backs b then b.order.start else b.state
def endActs (b : BookD) : List ActD :=
 if bookOk b && (planFor b.order).isSome then (if backs b then [⟨1, b.done.length⟩] else []) ++ (if evalCode b.order.goal (endOf b).toNat then [] else [⟨3, 0⟩]) else []
theorem bookOk_parts {b : BookD} (h : bookOk b = true) : taskOk b.order = true ∧ b.done.length ≤ 40 ∧ (0 ≤ b.state ∧ b.state < 32) ∧ planRun b.order b.order.start b.done = b.state := by
 unfold bookOk at h
 simp only [Bool.and_eq_true, decide_eq_true_eq, beq_iff_eq] at h
 exact ⟨h.1.1.1, h.1.1.2, (stIn_iff _).1 h.1.2, h.2⟩
theorem elAct : ElemT Tryz.prog 56 64 (.agg #[.int .i64 0, .int .i64 0]) 2 16 := ⟨Tryz.underlying56, info_parts (by kernel_rfl), rfl, by omega⟩
theorem rActs_nil (w W : World) (h : Below w.heap.size w W) : St w W [rActs (.slice none 0 0) []] :=
 ⟨h, [[]], rfl, fun i R F hR hF => by
  match i with
  | 0 =>
   injection hR with hR; injection hF with hF; subst hR hF
   exact ⟨⟨World.ownsRow_nil W 0 _ 2, rfl⟩, by simp⟩
  | i + 1 => simp at hR, by simp⟩
theorem St.newA (W : World) (g : Nat) (hg : g = W.heap.size) : St W (W.alloc (.cells #[] 64)) [rActs (.slice (some ⟨g, 0, none⟩) 0 0) []] :=
 (St.new1At W g #[] 64 hg).see fun F h _ => by
  obtain ⟨h1, rfl⟩ := h
  exact ⟨⟨by simp [flatA], .inr ⟨g, 0, #[], rfl, Nat.zero_le _, h1, Nat.le_refl _, by unfold maxLen; omega, rfl, rfl⟩⟩, rfl⟩
theorem St.ownA {w W : World} {L : List HRes} (h : St w W L) (i : Nat) {v : Value} {aa : List ActD} (hi : L[i]? = some (rActs v aa)) : W.ownsRow 0 64 2 v aa.length (Go.Proofs.YtkmcengmglgdeaaGreatDoor.ints (flatA aa)) := by
 obtain ⟨F, h1, -⟩ := h.get i hi
 exact h1.1
theorem St.appA {w W W' : World} {L : List HRes} (h : St w W L) (i : Nat) {v v' : Value} {aa bs : List ActD} {n : Nat} (hi : L[i]? = some (rActs v aa)) (hn : n = aa.length + bs.length) (hown : W'.ownsRow 0 64 2 v' n (Go.Proofs.YtkmcengmglgdeaaGreatDoor.ints (flatA aa) ++ Go.Proofs.YtkmcengmglgdeaaGreatDoor.ints (flatA bs)))
  (hg : W.grownBy W' v.ownBlock) (hat : v'.ownBlock = v.ownBlock ∨ v'.ownBlock = some W.heap.size) : St w W' (L.set i (rActs v' (aa ++ bs))) :=
 h.mod i hi fun F h1 _ => ⟨v'.ownBlock.toList, ⟨by subst hn; rw [List.length_append, flatA_append, show ∀ xs ys : List Int, Go.Proofs.YtkmcengmglgdeaaGreatDoor.ints (xs ++ ys) = Go.Proofs.YtkmcengmglgdeaaGreatDoor.ints xs ++ Go.Proofs.YtkmcengmglgdeaaGreatDoor.ints ys from fun xs ys => by simp [Go.Proofs.YtkmcengmglgdeaaGreatDoor.ints]]; exact hown, rfl⟩, fun b hb => by
  rcases hat with e | e
  ·left; rw [h1.2, ← e]; exact hb
  ·right; rw [e] at hb; simp at hb; omega, by rw [h1.2]; exact Only.of_grown hg⟩
end Go.Proofs.YtkmcengmglgdeaaGreatDoor
