/- Joined texts: Sz, Came, Help, Copy. -/
import Derived.Test.YtdbgoekemffimaaSOwn
import Derived.Deep.Slices
import Derived.ChangeOld
import Derived.Test.YtdbgoekemffimaaSPush
import Derived.Test.YtdbgoekemffimaaSEq
import Derived.WalkSpells
/- The laws' helpers that count how much an argument holds: szIntS, szDeed, szDeedS, szTask. -/
namespace Go.Proofs.Ytdbgoekemffimaa
open Go.ChangeShapes Go.WideShapes Go.ChangeAt Go.RowKit

/-- what is left of a bound -/
def less (left : Int) (n : Nat) : Int := if (n : Int) ≤ left then left - n else -1
def szD (d : DeedD) : Nat := d.need.length
def szDs (ds : List DeedD) : Nat := ds.length + (ds.map szD).sum
def szT (t : TaskD) : Nat := t.goal.length + szDs t.deeds
theorem less_yes {left : Int} {n : Nat} (h : (n : Int) ≤ left) : less left n = left - n := by unfold less; rw [if_pos h]
theorem less_no {left : Int} {n : Nat} (h : ¬ (n : Int) ≤ left) : less left n = -1 := by unfold less; rw [if_neg h]

theorem sum_take (ds : List DeedD) (k : Nat) (d : DeedD) (hd : ds[k]? = some d) : ((ds.take (k + 1)).map szD).sum = ((ds.take k).map szD).sum + szD d := by
  obtain ⟨hk, he⟩ := List.getElem?_eq_some_iff.1 hd
  rw [List.take_succ_eq_append_getElem hk, he]; simp
theorem sum_take_le (ds : List DeedD) (k : Nat) : ((ds.take k).map szD).sum ≤ (ds.map szD).sum := by
  conv => rhs; rw [← List.take_append_drop k ds]
  rw [List.map_append, List.sum_append]; omega

end Go.Proofs.Ytdbgoekemffimaa

/- Arguments that came in: graphs, deeds, tasks, books, acts, as the walks read them. -/
namespace Go.Proofs.Ytdbgoekemffimaa
set_option linter.unusedVariables false
set_option linter.unusedSimpArgs false
open Go.ChangeShapes Go.WideShapes Go.ChangeAt Go.RowKit Go.Deep

/-- in w, below block B, v reads as this book -/
def RdBM (M : Nat) (w : World) (B : Nat) (v : Value) (b : BookD) : Prop :=
  ∃ A n c A' n' c' A2 n2 c2, v = .agg #[.int .i64 b.order.start, .slice A n c, .slice A' n' c', .slice A2 n2 c2, .int .i64 b.state] ∧ RdI .i64 w B A n c b.order.goal ∧ n ≤ M ∧ RdDsM M w B A' n' c' b.order.deeds ∧ (Lit.int .i64 b.order.start).wf = true ∧
    RdI .i64 w B A2 n2 c2 b.done ∧ n2 ≤ M ∧ (Lit.int .i64 b.state).wf = true
abbrev RdB := RdBM 1048576
theorem RdBM.up {M : Nat} {w w' : World} {v : Value} {b : BookD} (h : RdBM M w w.heap.size v b) (hb : Below w.heap.size w w') : RdBM M w' w'.heap.size v b := by
  obtain ⟨A, n, c, A', n', c', A2, n2, c2, e, h1, h2, h3, h4, h5, h6⟩ := h
  exact ⟨A, n, c, A', n', c', A2, n2, c2, e, h1.up hb, h2, h3.up hb, h4, h5.up hb, h6⟩
theorem RdDsM.less {M M' : Nat} {w : World} {B n c : Nat} {A : Option Addr} {ds : List DeedD} (h : RdDsM M w B A n c ds) (hn : n ≤ M') (hd : ∀ d ∈ ds, d.need.length ≤ M') : RdDsM M' w B A n c ds :=
  ⟨h.len, h.cap, h.capMax, hn, fun h0 => by
    obtain ⟨b, off, e, hb, hc⟩ := h.at_ h0
    refine ⟨b, off, e, hb, fun i d hi => ?_⟩
    obtain ⟨A, n, c, q0, q1, q2, q3, q4, q5, q6⟩ := hc i d hi
    exact ⟨A, n, c, q0, q1, q2, q3, q4, by have := hd d (List.mem_of_getElem? hi); rw [q4.len] at this; exact this, q6⟩⟩
theorem szDs_each {ds : List DeedD} {d : DeedD} (h : d ∈ ds) : d.need.length ≤ szDs ds := by
  unfold szDs
  have : szD d ≤ (ds.map szD).sum := by
    induction ds with
    | nil => cases h
    | cons x ds ih =>
      simp only [List.map_cons, List.sum_cons]
      rcases List.mem_cons.1 h with rfl | h
      · omega
      · have := ih h; omega
  unfold szD at this ⊢
  omega
theorem RdTM.less {M M' : Nat} {w : World} {B : Nat} {v : Value} {t : TaskD} (h : RdTM M w B v t) (hs : szT t ≤ M') : RdTM M' w B v t := by
  obtain ⟨A, n, c, A', n', c', e, h1, h2, h3, h4⟩ := h
  have hl := h1.len
  have hl' := h3.len
  unfold szT at hs
  have : szDs t.deeds = n' + (t.deeds.map szD).sum := by unfold szDs; rw [hl']
  exact ⟨A, n, c, A', n', c', e, h1, by omega, h3.less (by omega) (fun d hd => by have := szDs_each hd; omega), h4⟩

theorem len1 {α : Type} {l : List α} (h : l.length = 1) : ∃ a, l = [a] := List.length_eq_one_iff.1 h
theorem len_succ {α : Type} {l : List α} {n : Nat} (h : l.length = n + 1) : ∃ a r, l = a :: r ∧ r.length = n := by
  cases l with
  | nil => simp at h
  | cons a r => exact ⟨a, r, rfl, by simpa using h⟩
theorem len2 {α : Type} {l : List α} (h : l.length = 2) : ∃ a b, l = [a, b] := by
  obtain ⟨a, r, e', k⟩ := len_succ h; subst e'; obtain ⟨b, rfl⟩ := len1 k; exact ⟨a, b, rfl⟩
theorem len3 {α : Type} {l : List α} (h : l.length = 3) : ∃ a b c, l = [a, b, c] := by
  obtain ⟨a, r, e', k⟩ := len_succ h; subst e'; obtain ⟨b, c, rfl⟩ := len2 k; exact ⟨a, b, c, rfl⟩
theorem len4 {α : Type} {l : List α} (h : l.length = 4) : ∃ a b c d, l = [a, b, c, d] := by
  obtain ⟨a, r, e', k⟩ := len_succ h; subst e'; obtain ⟨b, c, d, rfl⟩ := len3 k; exact ⟨a, b, c, d, rfl⟩
theorem len5 {α : Type} {l : List α} (h : l.length = 5) : ∃ a b c d e, l = [a, b, c, d, e] := by
  obtain ⟨a, r, e', k⟩ := len_succ h; subst e'; obtain ⟨b, c, d, e, rfl⟩ := len4 k; exact ⟨a, b, c, d, e, rfl⟩
section
variable {H : Type} {enc : TypeId × Value → H} {W : World} {base : Nat} {spare : Nat → Bool} {held : Bool} {fuel : Nat} {cs : List Value} {x : DataW H × List MemPlace}
theorem camC_ints (h : DataW.trod enc Try.prog W base spare held fuel 23 cs = some x) : ∃ A n c xs, cs = [.slice A n c] ∧ RdI .i64 W W.heap.size A n c xs := by
  rcases open_ints Try.underlying23 Try.underlying3 (by kernel_rfl) h with ⟨hcs, _⟩ | ⟨a, l, cc, zs, hcs, _⟩
  · subst hcs
    obtain ⟨xs, hx⟩ := rdI_of_came (c := 0) (A := none) (n := 0) Try.underlying23 Try.underlying3 (by kernel_rfl) h
    exact ⟨_, _, _, xs, rfl, hx⟩
  · subst hcs
    obtain ⟨xs, hx⟩ := rdI_of_came (c := cc) (A := some a) (n := l) Try.underlying23 Try.underlying3 (by kernel_rfl) h
    exact ⟨_, _, _, xs, rfl, hx⟩
end
end Go.Proofs.Ytdbgoekemffimaa

/- The laws' helpers, each in the words of St: copies, sizes, equality, marks. -/
namespace Go.Proofs.Ytdbgoekemffimaa
set_option linter.unusedVariables false
set_option linter.unusedSimpArgs false
open Go.ChangeShapes Go.WideShapes Go.ChangeAt Go.RowKit

/-- it returns a value, and things of its own -/
def Gave (w : World) (v : Value) (L : List HRes) (e : Ending) (w' : World) : Prop := e = .returned v ∧ St w w' L
section
variable {w W : World} {L : List HRes}
theorem St.formT (S : St w W L) (i : Nat) {v : Value} {t : TaskD} (hi : L[i]? = some (rTask v t)) : ∃ A n c A' n' c', v = .agg #[.int .i64 t.start, .slice A n c, .slice A' n' c'] := by
  obtain ⟨F, ⟨⟨gv, dv, Fg, Fd, cells, Fs, e, h1, h2, h3, -, h4⟩, -⟩, -⟩ := S.get i hi
  obtain ⟨A, c, rfl⟩ := own_form h1.row
  obtain ⟨A', c', rfl⟩ := own_form h3.row
  exact ⟨A, _, c, A', _, c', e⟩
theorem RdTM.form {M B : Nat} {v : Value} {t : TaskD} (h : RdTM M w B v t) : ∃ A n c A' n' c', v = .agg #[.int .i64 t.start, .slice A n c, .slice A' n' c'] := by
  obtain ⟨A, n, c, A', n', c', e, -⟩ := h
  exact ⟨A, n, c, A', n', c', e⟩
end
theorem Sn.rdT {w W : World} {M : Nat → Option HRes} (h : Sn w W M) (k : Nat) {v : Value} {t : TaskD} (hk : M k = some (rTask v t)) : RdT W W.heap.size v t := by
  obtain ⟨F, h1, -⟩ := h.get k hk; exact h1.1.rd
theorem Sn.rdI {w W : World} {M : Nat → Option HRes} (h : Sn w W M) (k : Nat) {v : Value} {xs : List Int} (hk : M k = some (rInts v xs)) : ∃ A c, v = .slice A xs.length c ∧ RdI .i64 W W.heap.size A xs.length c xs := by
  obtain ⟨F, h1, -⟩ := h.get k hk; exact h1.rd
theorem mkDs_le (ds : List DeedD) : mkDs ds ≤ 4 * szDs ds := by
  unfold mkDs szDs
  induction ds with
  | nil => simp
  | cons d ds ih => simp only [List.map_cons, List.sum_cons, List.length_cons, mkD, szD] at ih ⊢; omega
theorem mkT_le (t : TaskD) : mkT t ≤ 4 * szT t := by
  unfold mkT szT; have := mkDs_le t.deeds; omega
end Go.Proofs.Ytdbgoekemffimaa

/- slices.Clone of numbers; taskCopy of the program: the same task in new memory. -/
namespace Go.Proofs.Ytdbgoekemffimaa
set_option linter.unusedVariables false
set_option linter.unusedSimpArgs false
open Go.ChangeShapes Go.WideShapes Go.ChangeAt Go.RowKit

theorem clone_any (A : Option Addr) (n c : Nat) (xs : List Int) (w : World) (h : RdI .i64 w w.heap.size A n c xs) (hn : n ≤ 1048576) :
    Calls Try.prog 123 #[.slice A n c] w (Gives w id fun v => [rInts v xs]) := by
  have hl := h.len
  have hw := h.wf
  cases A with
  | none =>
    have h0 : n = 0 := by
      rcases Nat.eq_zero_or_pos n with e | e
      · exact e
      · obtain ⟨b, off, e, -⟩ := h.at_ e; cases e
    subst h0
    have hx : xs = [] := List.eq_nil_of_length_eq_zero hl
    subst hx
    have hnil : ∀ (w : World), (binOp .eql 23 (.slice none 0 c) (.slice none 0 0)).run Try.prog w = .ok (.bool true) w := fun w => Lib.run_eql_slice_nil w _ _ _ _ _ _ _ Try.underlying23
    go_enter Try.func123, Try.ntmps123
    go_wp2
    go_ret
    exact ⟨_, rfl, rInts_nil _ _ (Below.refl _ _)⟩
  | some a =>
    have hol : (w.alloc (.cells #[] 3)).ownsRow w.heap.size 3 1 (.slice (some ⟨w.heap.size, 0, none⟩) 0 0) 0 [] := World.ownsRow_lit w #[] 0 (Nat.le_refl _) (by unfold maxLen; omega) rfl
    have hnil : ∀ (w : World), (binOp .eql 23 (.slice (some a) n c) (.slice none 0 0)).run Try.prog w = .ok (.bool false) w := fun w => Lib.run_eql_slice_nil w _ _ _ _ _ _ _ Try.underlying23
    have hr := (h.below ((Below.refl _ _).alloc (Nat.le_refl _) (.cells #[] 3))).row
    have HW := Lib.hid hw
    have HL := Lib.hid hl
    clear hw hl
    go_enter Try.func123, Try.ntmps123
    go_wp2_with (at_builtin; refine wp_app elInt rfl _ _ rfl w.heap.size _ 0 [] rfl hol w.heap.size (some a) n c (ints xs) rfl hr (ints_cell _) (by omega) (by omega) (by simp) ?_; intro v2 w2 hown2 hg2 hat2)
    go_ret
    refine ⟨v2, rfl, St.of_ints (F := v2.ownBlock.toList) ⟨?_, HW.out, rfl⟩ (((Below.refl _ _).alloc (Nat.le_refl _) (.cells #[] 3)).grown hg2 (by simp) (fun k hk => by have := (hol.lt k hk).1; omega))⟩
    rw [HL.out]
    simpa using hown2
theorem St.new1At (W : World) (g : Nat) (cs : Array Value) (t : TypeId) (hg : g = W.heap.size) : St W (W.alloc (.cells cs t)) [rBlk g t cs] := by subst hg; exact St.new1 W cs t
theorem take_succ' {α : Type} {l : List α} {k : Nat} {x : α} (h : l[k]? = some x) : l.take (k + 1) = l.take k ++ [x] := by
  obtain ⟨h1, h2⟩ := List.getElem?_eq_some_iff.1 h
  rw [List.take_succ_eq_append_getElem h1, h2]
end Go.Proofs.Ytdbgoekemffimaa
