/- Joined texts: Copy, Perm, PermW, Named. -/
import Derived.Test.YtdbgoekemffimaaSSz
import Derived.WalkSpells
import Derived.Test.YtdbgoekemffimaaSPlan
import Derived.Test.YtdbgoekemffimaaSDeed
/- slices.Clone of numbers; taskCopy of the program: the same task in new memory. -/
namespace Go.Proofs.Ytdbgoekemffimaa
set_option linter.unusedVariables false
set_option linter.unusedSimpArgs false
open Go.ChangeShapes Go.WideShapes Go.ChangeAt Go.RowKit

theorem clone_any (A : Option Addr) (n c : Nat) (xs : List Int) (w : World) (h : RdI .i64 w w.heap.size A n c xs) (hn : n ≤ 1048576) :
    Calls Try.prog 123 #[.slice A n c] w (Gives w id fun v => [rInts v xs]) := by
  have hl := h.len
  have hw := h.wf
  cases A with
  | none =>
    have h0 : n = 0 := by
      rcases Nat.eq_zero_or_pos n with e | e
      · exact e
      · obtain ⟨b, off, e, -⟩ := h.at_ e; cases e
    subst h0
    have hx : xs = [] := List.eq_nil_of_length_eq_zero hl
    subst hx
    have hnil : ∀ (w : World), (binOp .eql 23 (.slice none 0 c) (.slice none 0 0)).run Try.prog w = .ok (.bool true) w := fun w => Lib.run_eql_slice_nil w _ _ _ _ _ _ _ Try.underlying23
    go_enter Try.func123, Try.ntmps123
    go_wp2
    go_ret
    exact ⟨_, rfl, rInts_nil _ _ (Below.refl _ _)⟩
  | some a =>
    have hol : (w.alloc (.cells #[] 3)).ownsRow w.heap.size 3 1 (.slice (some ⟨w.heap.size, 0, none⟩) 0 0) 0 [] := World.ownsRow_lit w #[] 0 (Nat.le_refl _) (by unfold maxLen; omega) rfl
    have hnil : ∀ (w : World), (binOp .eql 23 (.slice (some a) n c) (.slice none 0 0)).run Try.prog w = .ok (.bool false) w := fun w => Lib.run_eql_slice_nil w _ _ _ _ _ _ _ Try.underlying23
    have hr := (h.below ((Below.refl _ _).alloc (Nat.le_refl _) (.cells #[] 3))).row
    have HW := Lib.hid hw
    have HL := Lib.hid hl
    clear hw hl
    go_enter Try.func123, Try.ntmps123
    go_wp2_with (at_builtin; refine wp_app elInt rfl _ _ rfl w.heap.size _ 0 [] rfl hol w.heap.size (some a) n c (ints xs) rfl hr (ints_cell _) (by omega) (by omega) (by simp) ?_; intro v2 w2 hown2 hg2 hat2)
    go_ret
    refine ⟨v2, rfl, St.of_ints (F := v2.ownBlock.toList) ⟨?_, HW.out, rfl⟩ (((Below.refl _ _).alloc (Nat.le_refl _) (.cells #[] 3)).grown hg2 (by simp) (fun k hk => by have := (hol.lt k hk).1; omega))⟩
    rw [HL.out]
    simpa using hown2
theorem St.new1At (W : World) (g : Nat) (cs : Array Value) (t : TypeId) (hg : g = W.heap.size) : St W (W.alloc (.cells cs t)) [rBlk g t cs] := by subst hg; exact St.new1 W cs t
theorem take_succ' {α : Type} {l : List α} {k : Nat} {x : α} (h : l[k]? = some x) : l.take (k + 1) = l.take k ++ [x] := by
  obtain ⟨h1, h2⟩ := List.getElem?_eq_some_iff.1 h
  rw [List.take_succ_eq_append_getElem h1, h2]
end Go.Proofs.Ytdbgoekemffimaa

/- Plain law: permutations of at most five numbers; a set and a code under them; no program in sight. -/
namespace Go.Proofs.Ytdbgoekemffimaa

def permOk (p : List Int) : Bool := decide (1 ≤ p.length ∧ p.length ≤ 5) && (p.all (fun x => decide (0 ≤ x ∧ x < p.length)) && decide p.Nodup)
/-- the numbers seen so far -/
def seenP (p : List Int) : Nat → Bool := fun j => decide ((j : Int) ∈ p)
/-- the members of a set under the first m names -/
def nameP (s : Nat) (p : List Int) (m : Nat) : Nat → Bool := fun j => (List.range m).any fun k => bit s k == 1 && p[k]? == some (j : Int)
def setN (p : List Int) (s : Nat) : Nat := mset (nameP s p 5) 5
def stepN (p : List Int) (x : Int) : Int := if x < 5 then p.getD x.toNat 0 else x
def codeN (p xs : List Int) : List Int := xs.map (stepN p)
/-- the code whose first k steps are named -/
def midN (p xs : List Int) (k : Nat) : List Int := (xs.take k).map (stepN p) ++ xs.drop k
def deedN (p : List Int) (d : DeedD) : DeedD := ⟨codeN p d.need, setN p d.on.toNat, setN p d.off.toNat, setN p d.flip.toNat⟩
def taskNamed (t : TaskD) (p : List Int) : TaskD := if taskOk t = true ∧ permOk p = true ∧ p.length = 5 then ⟨setN p t.start.toNat, codeN p t.goal, t.deeds.map (deedN p)⟩ else ⟨0, [], []⟩
end Go.Proofs.Ytdbgoekemffimaa

/- PermValid, the naming of sets and of codes, of the program and of the reference. -/
namespace Go.Proofs.Ytdbgoekemffimaa
set_option linter.unusedVariables false
set_option linter.unusedSimpArgs false
open Go.ChangeShapes Go.WideShapes Go.ChangeAt Go.RowKit
end Go.Proofs.Ytdbgoekemffimaa

/- Sets and codes under names, of the program and of the reference. -/
namespace Go.Proofs.Ytdbgoekemffimaa
set_option linter.unusedVariables false
set_option linter.unusedSimpArgs false
open Go.ChangeShapes Go.WideShapes Go.ChangeAt Go.RowKit
section
variable {w W W' : World} {L : List HRes}
theorem ints_set (xs : List Int) (k : Nat) (x : Int) : (ints xs).set k (.int .i64 x) = ints (xs.set k x) := by simp [ints, List.map_set]
/-- a store in a row of numbers -/
theorem St.storeI (h : St w W L) (i : Nat) {g n c : Nat} {xs : List Int} (hi : L[i]? = some (rInts (.slice (some ⟨g, 0, none⟩) n c) xs)) (hn : xs.length = n) (k : Nat) (x : Int) (hw : (Lit.int .i64 x).wf = true) :
    St w (W.setCell ⟨g, k, none⟩ (.int .i64 x)) (L.set i (rInts (.slice (some ⟨g, 0, none⟩) n c) (xs.set k x))) :=
  h.mod i hi fun F h1 _ => ⟨F, ⟨by
    have := (World.ownsRow.stored (hn ▸ h1.row : W.ownsRow 0 3 1 (.slice (some ⟨g, 0, none⟩) n c) n (Go.Proofs.Ytdbgoekemffimaa.ints xs)) k (.int .i64 x)).1
    rw [ints_set] at this
    rw [List.length_set, hn]; exact this, fun y hy => by
      rcases List.mem_or_eq_of_mem_set hy with e | e
      · exact h1.wf y e
      · subst e; exact hw, h1.foot⟩, fun b hb => .inl hb, (Only.refl F W).set (by rw [h1.foot]; simp [Value.ownBlock]) _⟩
theorem St.formI (h : St w W L) (i : Nat) {v : Value} {xs : List Int} (hi : L[i]? = some (rInts v xs)) {n : Nat} (hn : xs.length = n) (h0 : 0 < n) : ∃ g c, v = .slice (some ⟨g, 0, none⟩) n c := by
  obtain ⟨F, h1, -⟩ := h.get i hi
  subst hn
  rcases h1.row.2 with ⟨_, h2⟩ | ⟨g, cap, cur, hv, _⟩
  · omega
  · exact ⟨g, cap, hv⟩
theorem St.cellI (h : St w W L) (i : Nat) {g n c : Nat} {xs : List Int} (hi : L[i]? = some (rInts (.slice (some ⟨g, 0, none⟩) n c) xs)) (hn : xs.length = n) (k : Nat) (x : Int) (hx : xs[k]? = some x) : W.cell? ⟨g, k, none⟩ = some (.int .i64 x) ∧ W.frozen? ⟨g, k, none⟩ = false := by
  obtain ⟨F, h1, -⟩ := h.get i hi
  have hr : W.ownsRow 0 3 1 (.slice (some ⟨g, 0, none⟩) n c) n (Go.Proofs.Ytdbgoekemffimaa.ints xs) := hn ▸ h1.row
  refine ⟨?_, hr.frozenAt k⟩
  have hk := (List.getElem?_eq_some_iff.1 hx).1
  rw [hr.cellAt k (by omega)]
  simp [Go.Proofs.Ytdbgoekemffimaa.ints, hx]
end
end Go.Proofs.Ytdbgoekemffimaa
