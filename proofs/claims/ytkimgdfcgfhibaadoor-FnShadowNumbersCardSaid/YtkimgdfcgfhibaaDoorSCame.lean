/- Joined texts: Came, Help. -/
import Derived.Test.YtkimgdfcgfhibaaDoorSSz
import Derived.Deep.Slices
import Derived.ChangeOld
import Derived.Test.YtkimgdfcgfhibaaDoorSPush
import Derived.Test.YtkimgdfcgfhibaaDoorSMark
/- Arguments that came in: graphs, deeds, tasks, books, acts, as the walks read them. -/
namespace Go.Proofs.YtkimgdfcgfhibaaDoor
set_option linter.unusedVariables false
set_option linter.unusedSimpArgs false
open Go.ChangeShapes Go.WideShapes Go.ChangeAt Go.RowKit Go.Deep

/-- in w, below block B, v reads as this book -/
def RdBM (M : Nat) (w : World) (B : Nat) (v : Value) (b : BookD) : Prop :=
  ∃ A n c A' n' c' A2 n2 c2, v = .agg #[.int .i64 b.order.start, .slice A n c, .slice A' n' c', .slice A2 n2 c2, .int .i64 b.state] ∧ RdI .i64 w B A n c b.order.goal ∧ n ≤ M ∧ RdDsM M w B A' n' c' b.order.deeds ∧ (Lit.int .i64 b.order.start).wf = true ∧
    RdI .i64 w B A2 n2 c2 b.done ∧ n2 ≤ M ∧ (Lit.int .i64 b.state).wf = true
abbrev RdB := RdBM 1048576
theorem RdBM.up {M : Nat} {w w' : World} {v : Value} {b : BookD} (h : RdBM M w w.heap.size v b) (hb : Below w.heap.size w w') : RdBM M w' w'.heap.size v b := by
  obtain ⟨A, n, c, A', n', c', A2, n2, c2, e, h1, h2, h3, h4, h5, h6⟩ := h
  exact ⟨A, n, c, A', n', c', A2, n2, c2, e, h1.up hb, h2, h3.up hb, h4, h5.up hb, h6⟩
theorem RdDsM.less {M M' : Nat} {w : World} {B n c : Nat} {A : Option Addr} {ds : List DeedD} (h : RdDsM M w B A n c ds) (hn : n ≤ M') (hd : ∀ d ∈ ds, d.need.length ≤ M') : RdDsM M' w B A n c ds :=
  ⟨h.len, h.cap, h.capMax, hn, fun h0 => by
    obtain ⟨b, off, e, hb, hc⟩ := h.at_ h0
    refine ⟨b, off, e, hb, fun i d hi => ?_⟩
    obtain ⟨A, n, c, q0, q1, q2, q3, q4, q5, q6⟩ := hc i d hi
    exact ⟨A, n, c, q0, q1, q2, q3, q4, by have := hd d (List.mem_of_getElem? hi); rw [q4.len] at this; exact this, q6⟩⟩
theorem szDs_each {ds : List DeedD} {d : DeedD} (h : d ∈ ds) : d.need.length ≤ szDs ds := by
  unfold szDs
  have : szD d ≤ (ds.map szD).sum := by
    induction ds with
    | nil => cases h
    | cons x ds ih =>
      simp only [List.map_cons, List.sum_cons]
      rcases List.mem_cons.1 h with rfl | h
      · omega
      · have := ih h; omega
  unfold szD at this ⊢
  omega
theorem RdTM.less {M M' : Nat} {w : World} {B : Nat} {v : Value} {t : TaskD} (h : RdTM M w B v t) (hs : szT t ≤ M') : RdTM M' w B v t := by
  obtain ⟨A, n, c, A', n', c', e, h1, h2, h3, h4⟩ := h
  have hl := h1.len
  have hl' := h3.len
  unfold szT at hs
  have : szDs t.deeds = n' + (t.deeds.map szD).sum := by unfold szDs; rw [hl']
  exact ⟨A, n, c, A', n', c', e, h1, by omega, h3.less (by omega) (fun d hd => by have := szDs_each hd; omega), h4⟩

section
variable {H : Type} {enc : TypeId × Value → H} {W : World} {base : Nat} {spare : Nat → Bool} {held : Bool} {fuel : Nat} {cs : List Value} {x : DataW H × List MemPlace}
end
end Go.Proofs.YtkimgdfcgfhibaaDoor

/- The laws' helpers, each in the words of St: copies, sizes, equality, marks. -/
namespace Go.Proofs.YtkimgdfcgfhibaaDoor
set_option linter.unusedVariables false
set_option linter.unusedSimpArgs false
open Go.ChangeShapes Go.WideShapes Go.ChangeAt Go.RowKit

/-- it returns a value, and things of its own -/
def Gave (w : World) (v : Value) (L : List HRes) (e : Ending) (w' : World) : Prop := e = .returned v ∧ St w w' L
section
variable {w W : World} {L : List HRes}
theorem St.formT (S : St w W L) (i : Nat) {v : Value} {t : TaskD} (hi : L[i]? = some (rTask v t)) : ∃ A n c A' n' c', v = .agg #[.int .i64 t.start, .slice A n c, .slice A' n' c'] := by
  obtain ⟨F, ⟨⟨gv, dv, Fg, Fd, cells, Fs, e, h1, h2, h3, -, h4⟩, -⟩, -⟩ := S.get i hi
  obtain ⟨A, c, rfl⟩ := own_form h1.row
  obtain ⟨A', c', rfl⟩ := own_form h3.row
  exact ⟨A, _, c, A', _, c', e⟩
end
theorem Sn.rdT {w W : World} {M : Nat → Option HRes} (h : Sn w W M) (k : Nat) {v : Value} {t : TaskD} (hk : M k = some (rTask v t)) : RdT W W.heap.size v t := by
  obtain ⟨F, h1, -⟩ := h.get k hk; exact h1.1.rd
theorem Sn.rdI {w W : World} {M : Nat → Option HRes} (h : Sn w W M) (k : Nat) {v : Value} {xs : List Int} (hk : M k = some (rInts v xs)) : ∃ A c, v = .slice A xs.length c ∧ RdI .i64 W W.heap.size A xs.length c xs := by
  obtain ⟨F, h1, -⟩ := h.get k hk; exact h1.rd
end Go.Proofs.YtkimgdfcgfhibaaDoor
