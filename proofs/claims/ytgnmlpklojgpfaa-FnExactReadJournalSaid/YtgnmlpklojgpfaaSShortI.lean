/- comesTwice and PlanShort of the program. Printed by gen_short.py out of XShortI.src. -/
import Derived.Test.YtgnmlpklojgpfaaSMayW
import Derived.Test.YtgnmlpklojgpfaaSTDraw2
namespace Go.Proofs.Ytgnmlpklojgpfaa
set_option linter.unusedVariables false
set_option linter.unusedSimpArgs false
open Go.ChangeShapes Go.WideShapes Go.ChangeAt Go.RowKit

/-- 'append(s, x...)' in a region that is walked by wp_reg; x may be empty -/
theorem wp_app1z {P : Program} {t e : TypeId} {z : Value} {size bytes : Nat} (E : ElemT P t e z size bytes) {w : World} {o : Oper} {a : Act} {K : Act → World → Prop} {Q : Exit → Act → World → Prop} (s x : Operand)
    (ho : o.op = .call { callee := .builtin .append, args := #[s, x], argTypes := #[t, t] })
    (base : Nat) (v : Value) (n : Nat) (xs : List Value) (hs : a.eval s = v) (hown : w.ownsRow base e size v n xs)
    (B : Nat) (A : Option Addr) (m c : Nat) (news : List Value) (hx : a.eval x = .slice A m c) (hr : RdRow w B size A m c news) (h1 : ∀ u ∈ news, u.oneCell' = true)
    (hbytes : (n + m) * bytes ≤ 140737488355328) (h63 : n + m ≤ 140737488355328) (hbase : base ≤ w.heap.size)
    (h : ∀ v' w', w'.ownsRow base e size v' (n + m) (xs ++ news) → w.grownBy w' v.ownBlock → (v'.ownBlock = v.ownBlock ∨ v'.ownBlock = some w.heap.size) → K (a.put o.dst v') w') :
    o.wp P a w K Q := by
  rcases Nat.eq_zero_or_pos m with hm | hm
  · subst hm
    obtain ⟨i, hi, hz, hsize, hby⟩ := E.hi
    obtain rfl : news = [] := List.eq_nil_of_length_eq_zero (by simpa using hr.len)
    have key : (Builtin.append_ #[t, t] o.type #[v, .slice A 0 c]).run P w = .ok v w := by
      rcases hown.2 with ⟨rfl, rfl⟩ | ⟨g, cap, cur, rfl, _, _, hnc, _⟩
      · cases A <;> simp [Builtin.append_, run_underlying E.ht, sizeOf, typeInfo, hi, Builtin.lenOf, Builtin.firstCells, loadCells, loadCellsFrom]
      · cases A <;> simp [Builtin.append_, run_underlying E.ht, sizeOf, typeInfo, hi, Builtin.lenOf, Builtin.firstCells, hnc, storeCells, loadCells, loadCellsFrom]
    unfold Oper.wp execOp
    simp only [ho, resolve, invoke, builtin, Sem.run_bind, Sem.run_pure, Result.andThen_ok, List.map_toArray, List.map_cons, List.map_nil, hs, hx, key]
    exact h v w (by simpa using hown) (World.grownBy.refl w _) (.inl rfl)
  · exact wp_app1 E s x ho base v n xs hs hown B A m c news hx hr hm h1 hbytes h63 hbase h
section
variable {w W W' : World} {M : Nat → Option HRes}
end
/-! ### the states of a plan -/
def trl (t : TaskD) (q : List Int) : List Int := (List.range (q.length + 1)).map (prun t q)
/-- what comesTwice tells -/
def TwiceR (n : Nat) (xs : List Int) (e : Ending) : Prop := ∃ f l : Nat, ∃ b : Bool, e = .returned (.tuple #[.int .i64 (f : Int), .int .i64 (l : Int), .bool b]) ∧
      (b = true → f < l ∧ l < n ∧ xs[l]? = xs[f]? ∧ (∀ i, i < f → ∀ j, i < j → j < n → xs[j]? ≠ xs[i]?) ∧ ∀ j, l < j → j < n → xs[j]? ≠ xs[f]?) ∧ (b = false → ∀ i j, i < j → j < n → xs[j]? ≠ xs[i]?)
def lenV : Value → Nat
  | .slice _ n _ => n
  | _ => 0
def trk (t : TaskD) (p : List Int) (i : Nat) : List Int := (List.range i).map (prun t p)
end Go.Proofs.Ytgnmlpklojgpfaa
