/- Graphs as arguments: read, own, copied, compared, marked, measured. -/
import Derived.Test.YtfgebdioffeliaaSBValid
import Derived.Test.YtfgebdioffeliaaSSplit
namespace Go.Proofs.Ytfgebdioffeliaa
set_option linter.unusedVariables false
set_option linter.unusedSimpArgs false
open Go.ChangeShapes Go.WideShapes Go.ChangeAt Go.RowKit

def RdGM (M : Nat) (w : World) (B : Nat) (v : Value) (xs : List Int) : Prop := ∃ A n c, v = .agg #[.slice A n c] ∧ RdI .i64 w B A n c xs ∧ n ≤ M
abbrev RdG (w : World) (B : Nat) (v : Value) (xs : List Int) : Prop := RdGM 1048576 w B v xs
def rGraph (v : Value) (xs : List Int) : HRes where
  at_ w F := (∃ gv, v = .agg #[gv] ∧ OwnI w 0 gv xs F) ∧ xs.length ≤ 1048576
  keep w w' F h hk := by obtain ⟨⟨gv, e, h1⟩, h2⟩ := h; exact ⟨⟨gv, e, h1.keep hk⟩, h2⟩
  lt w F h b hb := by obtain ⟨⟨gv, e, h1⟩, h2⟩ := h; exact (h1.lt b hb).2
  nd w F h := by obtain ⟨⟨gv, e, h1⟩, h2⟩ := h; exact h1.nodup
def szG (xs : List Int) : Nat := xs.length
def mkG (xs : List Int) : Nat := xs.length
def markG (k : Nat) (xs : List Int) : List Int := marks k xs.length
section
variable {w W W' : World} {L : List HRes} {M B : Nat} {v : Value} {xs : List Int}
theorem RdGM.form (h : RdGM M w B v xs) : ∃ A n c, v = .agg #[.slice A n c] := by obtain ⟨A, n, c, e, -⟩ := h; exact ⟨A, n, c, e⟩
theorem RdGM.ints {A : Option Addr} {n c : Nat} (h : RdGM M w B (.agg #[.slice A n c]) xs) : RdI .i64 w B A n c xs ∧ n ≤ M := by
  obtain ⟨A', n', c', e, h1, h2⟩ := h
  simp only [Value.agg.injEq, Array.mk.injEq, List.cons.injEq, Value.slice.injEq, and_true] at e
  obtain ⟨rfl, rfl, rfl⟩ := e
  exact ⟨h1, h2⟩
theorem RdGM.up (h : RdGM M w w.heap.size v xs) (hb : Below w.heap.size w W) : RdGM M W W.heap.size v xs := by
  obtain ⟨A, n, c, e, h1, h2⟩ := h; exact ⟨A, n, c, e, h1.up hb, h2⟩
theorem RdGM.less {M' : Nat} (h : RdGM M w B v xs) (hs : szG xs ≤ M') : RdGM M' w B v xs := by
  obtain ⟨A, n, c, e, h1, h2⟩ := h
  have := h1.len
  unfold szG at hs
  exact ⟨A, n, c, e, h1, by omega⟩
theorem rGraph_rd {F : List Nat} (h : (rGraph v xs).at_ W F) : RdG W W.heap.size v xs := by
  obtain ⟨⟨gv, e, h1⟩, h2⟩ := h
  obtain ⟨A, c, hv, hr⟩ := h1.rd
  exact ⟨A, _, c, by rw [e, hv], hr, h2⟩
theorem St.rdG (S : St w W L) (i : Nat) (hi : L[i]? = some (rGraph v xs)) : RdG W W.heap.size v xs := by
  obtain ⟨F, h, -⟩ := S.get i hi; exact rGraph_rd h
theorem Sn.rdG {M : Nat → Option HRes} (h : Sn w W M) (k : Nat) (hk : M k = some (rGraph v xs)) : RdG W W.heap.size v xs := by
  obtain ⟨F, h1, -⟩ := h.get k hk; exact rGraph_rd h1
theorem St.formG (S : St w W L) (i : Nat) (hi : L[i]? = some (rGraph v xs)) : ∃ A n c, v = .agg #[.slice A n c] := (S.rdG i hi).form
theorem St.graph {gv : Value} (h : St w W (rInts gv xs :: L)) (hl : xs.length ≤ 1048576) : St w W (rGraph (.agg #[gv]) xs :: L) := h.see fun F h1 _ => ⟨⟨gv, rfl, h1⟩, hl⟩
end
end Go.Proofs.Ytfgebdioffeliaa
