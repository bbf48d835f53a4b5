/- Joined texts: Sz, Came, Help, IntS, GraphH, More. -/
import Derived.Test.YtdbgoekemffimaaSOwn
import Derived.Deep.Slices
import Derived.ChangeOld
import Derived.Test.YtdbgoekemffimaaSPush
import Derived.Test.YtdbgoekemffimaaSEq
/- The laws' helpers that count how much an argument holds: szIntS, szDeed, szDeedS, szTask. -/
namespace Go.Proofs.Ytdbgoekemffimaa
open Go.ChangeShapes Go.WideShapes Go.ChangeAt Go.RowKit

/-- what is left of a bound -/
def less (left : Int) (n : Nat) : Int := if (n : Int) ≤ left then left - n else -1
def szD (d : DeedD) : Nat := d.need.length
def szDs (ds : List DeedD) : Nat := ds.length + (ds.map szD).sum
def szT (t : TaskD) : Nat := t.goal.length + szDs t.deeds
end Go.Proofs.Ytdbgoekemffimaa

/- Arguments that came in: graphs, deeds, tasks, books, acts, as the walks read them. -/
namespace Go.Proofs.Ytdbgoekemffimaa
set_option linter.unusedVariables false
set_option linter.unusedSimpArgs false
open Go.ChangeShapes Go.WideShapes Go.ChangeAt Go.RowKit Go.Deep

/-- in w, below block B, v reads as this book -/
def RdBM (M : Nat) (w : World) (B : Nat) (v : Value) (b : BookD) : Prop :=
  ∃ A n c A' n' c' A2 n2 c2, v = .agg #[.int .i64 b.order.start, .slice A n c, .slice A' n' c', .slice A2 n2 c2, .int .i64 b.state] ∧ RdI .i64 w B A n c b.order.goal ∧ n ≤ M ∧ RdDsM M w B A' n' c' b.order.deeds ∧ (Lit.int .i64 b.order.start).wf = true ∧
    RdI .i64 w B A2 n2 c2 b.done ∧ n2 ≤ M ∧ (Lit.int .i64 b.state).wf = true
abbrev RdB := RdBM 1048576
theorem RdBM.up {M : Nat} {w w' : World} {v : Value} {b : BookD} (h : RdBM M w w.heap.size v b) (hb : Below w.heap.size w w') : RdBM M w' w'.heap.size v b := by
  obtain ⟨A, n, c, A', n', c', A2, n2, c2, e, h1, h2, h3, h4, h5, h6⟩ := h
  exact ⟨A, n, c, A', n', c', A2, n2, c2, e, h1.up hb, h2, h3.up hb, h4, h5.up hb, h6⟩
theorem RdDsM.less {M M' : Nat} {w : World} {B n c : Nat} {A : Option Addr} {ds : List DeedD} (h : RdDsM M w B A n c ds) (hn : n ≤ M') (hd : ∀ d ∈ ds, d.need.length ≤ M') : RdDsM M' w B A n c ds :=
  ⟨h.len, h.cap, h.capMax, hn, fun h0 => by
    obtain ⟨b, off, e, hb, hc⟩ := h.at_ h0
    refine ⟨b, off, e, hb, fun i d hi => ?_⟩
    obtain ⟨A, n, c, q0, q1, q2, q3, q4, q5, q6⟩ := hc i d hi
    exact ⟨A, n, c, q0, q1, q2, q3, q4, by have := hd d (List.mem_of_getElem? hi); rw [q4.len] at this; exact this, q6⟩⟩
theorem szDs_each {ds : List DeedD} {d : DeedD} (h : d ∈ ds) : d.need.length ≤ szDs ds := by
  unfold szDs
  have : szD d ≤ (ds.map szD).sum := by
    induction ds with
    | nil => cases h
    | cons x ds ih =>
      simp only [List.map_cons, List.sum_cons]
      rcases List.mem_cons.1 h with rfl | h
      · omega
      · have := ih h; omega
  unfold szD at this ⊢
  omega
theorem RdTM.less {M M' : Nat} {w : World} {B : Nat} {v : Value} {t : TaskD} (h : RdTM M w B v t) (hs : szT t ≤ M') : RdTM M' w B v t := by
  obtain ⟨A, n, c, A', n', c', e, h1, h2, h3, h4⟩ := h
  have hl := h1.len
  have hl' := h3.len
  unfold szT at hs
  have : szDs t.deeds = n' + (t.deeds.map szD).sum := by unfold szDs; rw [hl']
  exact ⟨A, n, c, A', n', c', e, h1, by omega, h3.less (by omega) (fun d hd => by have := szDs_each hd; omega), h4⟩

section
variable {H : Type} {enc : TypeId × Value → H} {W : World} {base : Nat} {spare : Nat → Bool} {held : Bool} {fuel : Nat} {cs : List Value} {x : DataW H × List MemPlace}
end
end Go.Proofs.Ytdbgoekemffimaa

/- The laws' helpers, each in the words of St: copies, sizes, equality, marks. -/
namespace Go.Proofs.Ytdbgoekemffimaa
set_option linter.unusedVariables false
set_option linter.unusedSimpArgs false
open Go.ChangeShapes Go.WideShapes Go.ChangeAt Go.RowKit

/-- it returns a value, and things of its own -/
def Gave (w : World) (v : Value) (L : List HRes) (e : Ending) (w' : World) : Prop := e = .returned v ∧ St w w' L
section
variable {w W : World} {L : List HRes}
theorem St.formT (S : St w W L) (i : Nat) {v : Value} {t : TaskD} (hi : L[i]? = some (rTask v t)) : ∃ A n c A' n' c', v = .agg #[.int .i64 t.start, .slice A n c, .slice A' n' c'] := by
  obtain ⟨F, ⟨⟨gv, dv, Fg, Fd, cells, Fs, e, h1, h2, h3, -, h4⟩, -⟩, -⟩ := S.get i hi
  obtain ⟨A, c, rfl⟩ := own_form h1.row
  obtain ⟨A', c', rfl⟩ := own_form h3.row
  exact ⟨A, _, c, A', _, c', e⟩
theorem RdTM.form {M B : Nat} {v : Value} {t : TaskD} (h : RdTM M w B v t) : ∃ A n c A' n' c', v = .agg #[.int .i64 t.start, .slice A n c, .slice A' n' c'] := by
  obtain ⟨A, n, c, A', n', c', e, -⟩ := h
  exact ⟨A, n, c, A', n', c', e⟩
end
theorem Sn.rdT {w W : World} {M : Nat → Option HRes} (h : Sn w W M) (k : Nat) {v : Value} {t : TaskD} (hk : M k = some (rTask v t)) : RdT W W.heap.size v t := by
  obtain ⟨F, h1, -⟩ := h.get k hk; exact h1.1.rd
theorem Sn.rdI {w W : World} {M : Nat → Option HRes} (h : Sn w W M) (k : Nat) {v : Value} {xs : List Int} (hk : M k = some (rInts v xs)) : ∃ A c, v = .slice A xs.length c ∧ RdI .i64 W W.heap.size A xs.length c xs := by
  obtain ⟨F, h1, -⟩ := h.get k hk; exact h1.rd
end Go.Proofs.Ytdbgoekemffimaa

/- A row of numbers of the list St, read: with the name of its value at hand. No program in sight but for type numbers. -/
namespace Go.Proofs.Ytdbgoekemffimaa
theorem St.rdI' {w W : World} {L : List HRes} (h : St w W L) (k : Nat) {A : Option Addr} {n c : Nat} {xs : List Int} (hk : L[k]? = some (rInts (.slice A n c) xs)) : RdI .i64 W W.heap.size A n c xs := by
  obtain ⟨A', c', e, hr⟩ := h.rdI k hk
  simp only [Value.slice.injEq] at e
  obtain ⟨rfl, rfl, rfl⟩ := e
  exact hr
theorem Sn.rdI' {w W : World} {M : Nat → Option HRes} (h : Sn w W M) (k : Nat) {A : Option Addr} {n c : Nat} {xs : List Int} (hk : M k = some (rInts (.slice A n c) xs)) : RdI .i64 W W.heap.size A n c xs := by
  obtain ⟨A', c', e, hr⟩ := h.rdI k hk
  simp only [Value.slice.injEq] at e
  obtain ⟨rfl, rfl, rfl⟩ := e
  exact hr
end Go.Proofs.Ytdbgoekemffimaa

/- Graphs as arguments: read, own, copied, compared, marked, measured. -/
namespace Go.Proofs.Ytdbgoekemffimaa
set_option linter.unusedVariables false
set_option linter.unusedSimpArgs false
open Go.ChangeShapes Go.WideShapes Go.ChangeAt Go.RowKit

def RdGM (M : Nat) (w : World) (B : Nat) (v : Value) (xs : List Int) : Prop := ∃ A n c, v = .agg #[.slice A n c] ∧ RdI .i64 w B A n c xs ∧ n ≤ M
abbrev RdG (w : World) (B : Nat) (v : Value) (xs : List Int) : Prop := RdGM 1048576 w B v xs
def rGraph (v : Value) (xs : List Int) : HRes where
  at_ w F := (∃ gv, v = .agg #[gv] ∧ OwnI w 0 gv xs F) ∧ xs.length ≤ 1048576
  keep w w' F h hk := by obtain ⟨⟨gv, e, h1⟩, h2⟩ := h; exact ⟨⟨gv, e, h1.keep hk⟩, h2⟩
  lt w F h b hb := by obtain ⟨⟨gv, e, h1⟩, h2⟩ := h; exact (h1.lt b hb).2
  nd w F h := by obtain ⟨⟨gv, e, h1⟩, h2⟩ := h; exact h1.nodup
def szG (xs : List Int) : Nat := xs.length
def mkG (xs : List Int) : Nat := xs.length
def markG (k : Nat) (xs : List Int) : List Int := marks k xs.length
section
variable {w W W' : World} {L : List HRes} {M B : Nat} {v : Value} {xs : List Int}
theorem RdGM.form (h : RdGM M w B v xs) : ∃ A n c, v = .agg #[.slice A n c] := by obtain ⟨A, n, c, e, -⟩ := h; exact ⟨A, n, c, e⟩
theorem RdGM.ints {A : Option Addr} {n c : Nat} (h : RdGM M w B (.agg #[.slice A n c]) xs) : RdI .i64 w B A n c xs ∧ n ≤ M := by
  obtain ⟨A', n', c', e, h1, h2⟩ := h
  simp only [Value.agg.injEq, Array.mk.injEq, List.cons.injEq, Value.slice.injEq, and_true] at e
  obtain ⟨rfl, rfl, rfl⟩ := e
  exact ⟨h1, h2⟩
theorem RdGM.up (h : RdGM M w w.heap.size v xs) (hb : Below w.heap.size w W) : RdGM M W W.heap.size v xs := by
  obtain ⟨A, n, c, e, h1, h2⟩ := h; exact ⟨A, n, c, e, h1.up hb, h2⟩
theorem RdGM.less {M' : Nat} (h : RdGM M w B v xs) (hs : szG xs ≤ M') : RdGM M' w B v xs := by
  obtain ⟨A, n, c, e, h1, h2⟩ := h
  have := h1.len
  unfold szG at hs
  exact ⟨A, n, c, e, h1, by omega⟩
theorem rGraph_rd {F : List Nat} (h : (rGraph v xs).at_ W F) : RdG W W.heap.size v xs := by
  obtain ⟨⟨gv, e, h1⟩, h2⟩ := h
  obtain ⟨A, c, hv, hr⟩ := h1.rd
  exact ⟨A, _, c, by rw [e, hv], hr, h2⟩
theorem St.rdG (S : St w W L) (i : Nat) (hi : L[i]? = some (rGraph v xs)) : RdG W W.heap.size v xs := by
  obtain ⟨F, h, -⟩ := S.get i hi; exact rGraph_rd h
theorem Sn.rdG {M : Nat → Option HRes} (h : Sn w W M) (k : Nat) (hk : M k = some (rGraph v xs)) : RdG W W.heap.size v xs := by
  obtain ⟨F, h1, -⟩ := h.get k hk; exact rGraph_rd h1
theorem St.formG (S : St w W L) (i : Nat) (hi : L[i]? = some (rGraph v xs)) : ∃ A n c, v = .agg #[.slice A n c] := (S.rdG i hi).form
theorem St.graph {gv : Value} (h : St w W (rInts gv xs :: L)) (hl : xs.length ≤ 1048576) : St w W (rGraph (.agg #[gv]) xs :: L) := h.see fun F h1 _ => ⟨⟨gv, rfl, h1⟩, hl⟩
end
end Go.Proofs.Ytdbgoekemffimaa

/- Rows of numbers that grow: append to a thing of the list. -/
namespace Go.Proofs.Ytdbgoekemffimaa
set_option linter.unusedVariables false
set_option linter.unusedSimpArgs false
open Go.ChangeShapes Go.WideShapes Go.ChangeAt Go.RowKit
/-- a fact that no tactic looks into (contradiction looks into Hid) -/
structure Bx (p : Prop) : Prop where
  out : p
theorem St.appI {w W W' : World} {L : List HRes} (h : St w W L) (i : Nat) {v v' : Value} {xs ys : List Int} {n : Nat} (hi : L[i]? = some (rInts v xs)) (hn : n = xs.length + ys.length) (hown : W'.ownsRow 0 3 1 v' n (Go.Proofs.Ytdbgoekemffimaa.ints xs ++ Go.Proofs.Ytdbgoekemffimaa.ints ys)) (hwf : ∀ y ∈ ys, (Lit.int .i64 y).wf = true)
    (hg : W.grownBy W' v.ownBlock) (hat : v'.ownBlock = v.ownBlock ∨ v'.ownBlock = some W.heap.size) : St w W' (L.set i (rInts v' (xs ++ ys))) :=
  h.mod i hi fun F h1 _ => ⟨v'.ownBlock.toList, ⟨by subst hn; rw [List.length_append, ints_append]; exact hown, fun x hx => (List.mem_append.1 hx).elim (h1.wf x) (hwf x), rfl⟩, fun b hb => by
    rcases hat with e | e
    · left; rw [h1.foot, ← e]; exact hb
    · right; rw [e] at hb; simp at hb; omega, by rw [h1.foot]; exact Only.of_grown hg⟩
theorem St.ownI {w W : World} {L : List HRes} (h : St w W L) (i : Nat) {v : Value} {xs : List Int} (hi : L[i]? = some (rInts v xs)) : W.ownsRow 0 3 1 v xs.length (Go.Proofs.Ytdbgoekemffimaa.ints xs) := by
  obtain ⟨F, h1⟩ := h.ints i hi
  exact own_mono h1.row (Nat.zero_le _)
theorem drop2_st {w W : World} {R : HRes} {L : List HRes} {M : Nat → Option HRes} (h : Sn w W M) (h0 : M 0 = some R) (h2 : ∀ i, M (i + 2) = L[i]?) : St w W (R :: L) :=
  h.to_st (0 :: List.range' 2 L.length) (by
    rw [List.nodup_cons]
    exact ⟨fun hm => by have := List.mem_range'_1.1 hm; omega, List.nodup_range'⟩) (by
    simp only [List.map_cons, h0, List.cons.injEq, true_and]
    refine List.ext_getElem (by simp) fun i h1 h3 => ?_
    simp only [List.length_map, List.length_range'] at h1
    simp only [List.getElem_map, List.getElem_range', Nat.one_mul]
    rw [Nat.add_comm, h2 i, List.getElem?_eq_getElem h1])
theorem St.pushD {w W W' : World} {L : List HRes} {v v' nv : Value} {ds : List DeedD} {d : DeedD} {n : Nat} (h : St w W (rDeeds v ds :: rInts nv d.need :: L))
    (hs : d.need.length ≤ 1048576) (hwf : (Lit.int .i64 d.on).wf = true ∧ (Lit.int .i64 d.off).wf = true ∧ (Lit.int .i64 d.flip).wf = true) (hsm : ds.length + 1 ≤ 1048576) (hn : n = ds.length + 1)
    {cells : List Value} (hrow : W.ownsRow 0 44 4 v ds.length cells) (hown : W'.ownsRow 0 44 4 v' n (cells ++ [nv, .int .i64 d.on, .int .i64 d.off, .int .i64 d.flip])) (hg : W.grownBy W' v.ownBlock) (hat : v'.ownBlock = v.ownBlock ∨ v'.ownBlock = some W.heap.size) : St w W' (rDeeds v' (ds ++ [d]) :: L) :=
  drop2_st ((Sn.of_st h).push 0 1 (by decide) rfl rfl hs hwf hsm hn hrow hown hg hat) rfl fun i => rfl
theorem St.rowD {w W : World} {L : List HRes} (h : St w W L) (i : Nat) {v : Value} {ds : List DeedD} (hi : L[i]? = some (rDeeds v ds)) : ∃ cells, W.ownsRow 0 44 4 v ds.length cells := by
  obtain ⟨F, h1, -⟩ := h.get i hi; exact OwnDs.ownRow h1
end Go.Proofs.Ytdbgoekemffimaa
