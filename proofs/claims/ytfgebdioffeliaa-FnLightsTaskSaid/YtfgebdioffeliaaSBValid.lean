/- Joined texts: BValid, Copy, BookNew, Perm, PermW, Named, IntS. -/
import Derived.Test.YtfgebdioffeliaaSSplit
import Derived.WalkSpells
import Derived.Test.YtfgebdioffeliaaSPlan
import Derived.Test.YtfgebdioffeliaaSDeed
/- BookValid and BookEnded, of the program and of the reference: each returns one plain function, for every book. -/
namespace Go.Proofs.Ytfgebdioffeliaa
set_option linter.unusedVariables false
set_option linter.unusedSimpArgs false
open Go.ChangeShapes Go.WideShapes Go.ChangeAt Go.RowKit

def bookOk (b : BookD) : Bool := taskOk b.order && decide (b.done.length ≤ 40) && stIn b.state && (planRun b.order b.order.start b.done == b.state)
theorem planRun_bd (t : TaskD) (s : Int) (p : List Int) : (0 ≤ planRun t s p → taskOk t = true ∧ stIn s = true ∧ p.length ≤ 40 ∧ planRun t s p < 32) ∧ -1 ≤ planRun t s p := by
  unfold planRun
  split
  · rename_i h
    obtain ⟨h1, h2, h3⟩ := h
    cases hr : runP t s.toNat p with
    | none => simp [opt]
    | some s' =>
      have := runP_lt t s.toNat p s' h1 (by have := (stIn_iff s).1 h2; omega) hr
      simp only [opt]
      exact ⟨fun _ => ⟨h1, h2, h3, by omega⟩, by omega⟩
  · exact ⟨fun h => absurd h (by omega), by omega⟩
/-- codes that run -/
def codeRun (xs : List Int) (s : Int) : Bool := codeOk xs && stIn s && evalCode xs s.toNat
def bookEnded (b : BookD) : Bool := bookOk b && evalCode b.order.goal b.state.toNat
section
variable {w : World}
end
end Go.Proofs.Ytfgebdioffeliaa

/- slices.Clone of numbers; taskCopy of the program: the same task in new memory. -/
namespace Go.Proofs.Ytfgebdioffeliaa
set_option linter.unusedVariables false
set_option linter.unusedSimpArgs false
open Go.ChangeShapes Go.WideShapes Go.ChangeAt Go.RowKit

theorem St.new1At (W : World) (g : Nat) (cs : Array Value) (t : TypeId) (hg : g = W.heap.size) : St W (W.alloc (.cells cs t)) [rBlk g t cs] := by subst hg; exact St.new1 W cs t
theorem take_succ' {α : Type} {l : List α} {k : Nat} {x : α} (h : l[k]? = some x) : l.take (k + 1) = l.take k ++ [x] := by
  obtain ⟨h1, h2⟩ := List.getElem?_eq_some_iff.1 h
  rw [List.take_succ_eq_append_getElem h1, h2]
end Go.Proofs.Ytfgebdioffeliaa

/- BookNew of the program and of the reference: each returns one plain book, for every task. -/
namespace Go.Proofs.Ytfgebdioffeliaa
set_option linter.unusedVariables false
set_option linter.unusedSimpArgs false
open Go.ChangeShapes Go.WideShapes Go.ChangeAt Go.RowKit

def bookNew (t : TaskD) : BookD := if taskOk t then ⟨t, [], t.start⟩ else ⟨⟨0, [], []⟩, [], 0⟩
/-- a row of numbers behind an append -/
theorem Sn.appI {w W W' : World} {M : Nat → Option HRes} (h : Sn w W M) (k : Nat) {v v' : Value} {xs ys : List Int} {n : Nat} (hk : M k = some (rInts v xs)) (hn : n = xs.length + ys.length) (hown : W'.ownsRow 0 3 1 v' n (ints xs ++ ints ys)) (hwf : ∀ y ∈ ys, (Lit.int .i64 y).wf = true)
    (hg : W.grownBy W' v.ownBlock) (hat : v'.ownBlock = v.ownBlock ∨ v'.ownBlock = some W.heap.size) : Sn w W' (fun i => if i = k then some (rInts v' (xs ++ ys)) else M i) :=
  h.mod k hk fun F h1 _ => ⟨v'.ownBlock.toList, ⟨by subst hn; rw [List.length_append, ints_append]; exact hown, fun x hx => (List.mem_append.1 hx).elim (h1.wf x) (hwf x), rfl⟩, fun b hb => by
    rcases hat with e | e
    · left; rw [h1.foot, ← e]; exact hb
    · right; rw [e] at hb; simp at hb; omega, by rw [h1.foot]; exact Only.of_grown hg⟩
theorem St.newI (W : World) (g : Nat) (hg : g = W.heap.size) : St W (W.alloc (.cells #[] 3)) [rInts (.slice (some ⟨g, 0, none⟩) 0 0) []] :=
  (St.new1At W g #[] 3 hg).see fun F h _ => blk_ints (xs := []) h (by simp) (by simp) rfl
end Go.Proofs.Ytfgebdioffeliaa

/- Plain law: permutations of at most five numbers; a set and a code under them; no program in sight. -/
namespace Go.Proofs.Ytfgebdioffeliaa

def permOk (p : List Int) : Bool := decide (1 ≤ p.length ∧ p.length ≤ 5) && (p.all (fun x => decide (0 ≤ x ∧ x < p.length)) && decide p.Nodup)
/-- the numbers seen so far -/
def seenP (p : List Int) : Nat → Bool := fun j => decide ((j : Int) ∈ p)
/-- the members of a set under the first m names -/
def nameP (s : Nat) (p : List Int) (m : Nat) : Nat → Bool := fun j => (List.range m).any fun k => bit s k == 1 && p[k]? == some (j : Int)
def setN (p : List Int) (s : Nat) : Nat := mset (nameP s p 5) 5
def stepN (p : List Int) (x : Int) : Int := if x < 5 then p.getD x.toNat 0 else x
def codeN (p xs : List Int) : List Int := xs.map (stepN p)
/-- the code whose first k steps are named -/
def midN (p xs : List Int) (k : Nat) : List Int := (xs.take k).map (stepN p) ++ xs.drop k
def deedN (p : List Int) (d : DeedD) : DeedD := ⟨codeN p d.need, setN p d.on.toNat, setN p d.off.toNat, setN p d.flip.toNat⟩
def taskNamed (t : TaskD) (p : List Int) : TaskD := if taskOk t = true ∧ permOk p = true ∧ p.length = 5 then ⟨setN p t.start.toNat, codeN p t.goal, t.deeds.map (deedN p)⟩ else ⟨0, [], []⟩
end Go.Proofs.Ytfgebdioffeliaa

/- PermValid, the naming of sets and of codes, of the program and of the reference. -/
namespace Go.Proofs.Ytfgebdioffeliaa
set_option linter.unusedVariables false
set_option linter.unusedSimpArgs false
open Go.ChangeShapes Go.WideShapes Go.ChangeAt Go.RowKit
end Go.Proofs.Ytfgebdioffeliaa

/- Sets and codes under names, of the program and of the reference. -/
namespace Go.Proofs.Ytfgebdioffeliaa
set_option linter.unusedVariables false
set_option linter.unusedSimpArgs false
open Go.ChangeShapes Go.WideShapes Go.ChangeAt Go.RowKit
section
variable {w W W' : World} {L : List HRes}
theorem ints_set (xs : List Int) (k : Nat) (x : Int) : (ints xs).set k (.int .i64 x) = ints (xs.set k x) := by simp [ints, List.map_set]
/-- a store in a row of numbers -/
theorem St.storeI (h : St w W L) (i : Nat) {g n c : Nat} {xs : List Int} (hi : L[i]? = some (rInts (.slice (some ⟨g, 0, none⟩) n c) xs)) (hn : xs.length = n) (k : Nat) (x : Int) (hw : (Lit.int .i64 x).wf = true) :
    St w (W.setCell ⟨g, k, none⟩ (.int .i64 x)) (L.set i (rInts (.slice (some ⟨g, 0, none⟩) n c) (xs.set k x))) :=
  h.mod i hi fun F h1 _ => ⟨F, ⟨by
    have := (World.ownsRow.stored (hn ▸ h1.row : W.ownsRow 0 3 1 (.slice (some ⟨g, 0, none⟩) n c) n (Go.Proofs.Ytfgebdioffeliaa.ints xs)) k (.int .i64 x)).1
    rw [ints_set] at this
    rw [List.length_set, hn]; exact this, fun y hy => by
      rcases List.mem_or_eq_of_mem_set hy with e | e
      · exact h1.wf y e
      · subst e; exact hw, h1.foot⟩, fun b hb => .inl hb, (Only.refl F W).set (by rw [h1.foot]; simp [Value.ownBlock]) _⟩
theorem St.formI (h : St w W L) (i : Nat) {v : Value} {xs : List Int} (hi : L[i]? = some (rInts v xs)) {n : Nat} (hn : xs.length = n) (h0 : 0 < n) : ∃ g c, v = .slice (some ⟨g, 0, none⟩) n c := by
  obtain ⟨F, h1, -⟩ := h.get i hi
  subst hn
  rcases h1.row.2 with ⟨_, h2⟩ | ⟨g, cap, cur, hv, _⟩
  · omega
  · exact ⟨g, cap, hv⟩
theorem St.cellI (h : St w W L) (i : Nat) {g n c : Nat} {xs : List Int} (hi : L[i]? = some (rInts (.slice (some ⟨g, 0, none⟩) n c) xs)) (hn : xs.length = n) (k : Nat) (x : Int) (hx : xs[k]? = some x) : W.cell? ⟨g, k, none⟩ = some (.int .i64 x) ∧ W.frozen? ⟨g, k, none⟩ = false := by
  obtain ⟨F, h1, -⟩ := h.get i hi
  have hr : W.ownsRow 0 3 1 (.slice (some ⟨g, 0, none⟩) n c) n (Go.Proofs.Ytfgebdioffeliaa.ints xs) := hn ▸ h1.row
  refine ⟨?_, hr.frozenAt k⟩
  have hk := (List.getElem?_eq_some_iff.1 hx).1
  rw [hr.cellAt k (by omega)]
  simp [Go.Proofs.Ytfgebdioffeliaa.ints, hx]
end
end Go.Proofs.Ytfgebdioffeliaa

/- A row of numbers of the list St, read: with the name of its value at hand. No program in sight but for type numbers. -/
namespace Go.Proofs.Ytfgebdioffeliaa
theorem St.rdI' {w W : World} {L : List HRes} (h : St w W L) (k : Nat) {A : Option Addr} {n c : Nat} {xs : List Int} (hk : L[k]? = some (rInts (.slice A n c) xs)) : RdI .i64 W W.heap.size A n c xs := by
  obtain ⟨A', c', e, hr⟩ := h.rdI k hk
  simp only [Value.slice.injEq] at e
  obtain ⟨rfl, rfl, rfl⟩ := e
  exact hr
theorem Sn.rdI' {w W : World} {M : Nat → Option HRes} (h : Sn w W M) (k : Nat) {A : Option Addr} {n c : Nat} {xs : List Int} (hk : M k = some (rInts (.slice A n c) xs)) : RdI .i64 W W.heap.size A n c xs := by
  obtain ⟨A', c', e, hr⟩ := h.rdI k hk
  simp only [Value.slice.injEq] at e
  obtain ⟨rfl, rfl, rfl⟩ := e
  exact hr
end Go.Proofs.Ytfgebdioffeliaa
