/- Joined texts: MayW, ShortI, ShortS, Conc, DoI, DoI2, Skip, DoS, Pick. -/
import Derived.Test.YtfgebdioffeliaaSShortP
import Derived.Test.YtfgebdioffeliaaSBValid
import Derived.Test.YtfgebdioffeliaaSFwd
import Derived.Lib.AppendZeros
import Derived.Test.YtfgebdioffeliaaSSplit
import Derived.Test.YtfgebdioffeliaaSReg
import Derived.Test.YtfgebdioffeliaaSFront
/- DeedsMay of the program and of the reference; DeedDo of the reference. -/
namespace Go.Proofs.Ytfgebdioffeliaa
set_option linter.unusedVariables false
set_option linter.unusedSimpArgs false
open Go.ChangeShapes Go.WideShapes Go.ChangeAt Go.RowKit

def deedDoR (d : DeedD) (s : Int) : Int := if deedOk d = true ∧ stIn s = true then opt (deedDo d s.toNat) else -1
def mayZ (ds : List DeedD) (s : Int) (n : Nat) : List Int := if stIn s then mayN ds s.toNat n else []
end Go.Proofs.Ytfgebdioffeliaa

/- comesTwice and PlanShort of the program. Printed by gen_short.py out of XShortI.src. -/
namespace Go.Proofs.Ytfgebdioffeliaa
set_option linter.unusedVariables false
set_option linter.unusedSimpArgs false
open Go.ChangeShapes Go.WideShapes Go.ChangeAt Go.RowKit

/-- 'append(s, x...)' in a region that is walked by wp_reg; x may be empty -/
theorem wp_app1z {P : Program} {t e : TypeId} {z : Value} {size bytes : Nat} (E : ElemT P t e z size bytes) {w : World} {o : Oper} {a : Act} {K : Act → World → Prop} {Q : Exit → Act → World → Prop} (s x : Operand)
    (ho : o.op = .call { callee := .builtin .append, args := #[s, x], argTypes := #[t, t] })
    (base : Nat) (v : Value) (n : Nat) (xs : List Value) (hs : a.eval s = v) (hown : w.ownsRow base e size v n xs)
    (B : Nat) (A : Option Addr) (m c : Nat) (news : List Value) (hx : a.eval x = .slice A m c) (hr : RdRow w B size A m c news) (h1 : ∀ u ∈ news, u.oneCell' = true)
    (hbytes : (n + m) * bytes ≤ 140737488355328) (h63 : n + m ≤ 140737488355328) (hbase : base ≤ w.heap.size)
    (h : ∀ v' w', w'.ownsRow base e size v' (n + m) (xs ++ news) → w.grownBy w' v.ownBlock → (v'.ownBlock = v.ownBlock ∨ v'.ownBlock = some w.heap.size) → K (a.put o.dst v') w') :
    o.wp P a w K Q := by
  rcases Nat.eq_zero_or_pos m with hm | hm
  · subst hm
    obtain ⟨i, hi, hz, hsize, hby⟩ := E.hi
    obtain rfl : news = [] := List.eq_nil_of_length_eq_zero (by simpa using hr.len)
    have key : (Builtin.append_ #[t, t] o.type #[v, .slice A 0 c]).run P w = .ok v w := by
      rcases hown.2 with ⟨rfl, rfl⟩ | ⟨g, cap, cur, rfl, _, _, hnc, _⟩
      · cases A <;> simp [Builtin.append_, run_underlying E.ht, sizeOf, typeInfo, hi, Builtin.lenOf, Builtin.firstCells, loadCells, loadCellsFrom]
      · cases A <;> simp [Builtin.append_, run_underlying E.ht, sizeOf, typeInfo, hi, Builtin.lenOf, Builtin.firstCells, hnc, storeCells, loadCells, loadCellsFrom]
    unfold Oper.wp execOp
    simp only [ho, resolve, invoke, builtin, Sem.run_bind, Sem.run_pure, Result.andThen_ok, List.map_toArray, List.map_cons, List.map_nil, hs, hx, key]
    exact h v w (by simpa using hown) (World.grownBy.refl w _) (.inl rfl)
  · exact wp_app1 E s x ho base v n xs hs hown B A m c news hx hr hm h1 hbytes h63 hbase h
section
variable {w W W' : World} {M : Nat → Option HRes}
theorem Sn.ownI (h : Sn w W M) (k : Nat) {v : Value} {xs : List Int} (hk : M k = some (rInts v xs)) : W.ownsRow 0 3 1 v xs.length (Go.Proofs.Ytfgebdioffeliaa.ints xs) := by
  obtain ⟨F, h1, -⟩ := h.get k hk
  exact h1.row
theorem Sn.appTo (h : Sn w W M) (k : Nat) {v v' : Value} {xs ys : List Int} {n : Nat} (hk : M k = some (rInts v xs)) (hn : n = xs.length + ys.length) (hown : W'.ownsRow 0 3 1 v' n (Go.Proofs.Ytfgebdioffeliaa.ints xs ++ Go.Proofs.Ytfgebdioffeliaa.ints ys)) (hwf : ∀ y ∈ ys, (Lit.int .i64 y).wf = true)
    (hg : W.grownBy W' v.ownBlock) (hat : v'.ownBlock = v.ownBlock ∨ v'.ownBlock = some W.heap.size) : Sn w W' (fun i => if i = k then some (rInts v' (xs ++ ys)) else M i) :=
  h.mod k hk fun F h1 _ => ⟨v'.ownBlock.toList, ⟨by subst hn; rw [List.length_append, ints_append]; exact hown, fun x hx => (List.mem_append.1 hx).elim (h1.wf x) (hwf x), rfl⟩, fun b hb => by
    rcases hat with e | e
    · left; rw [h1.foot, ← e]; exact hb
    · right; rw [e] at hb; simp at hb; omega, by rw [h1.foot]; exact Only.of_grown hg⟩
end
/-! ### the states of a plan -/
def trl (t : TaskD) (q : List Int) : List Int := (List.range (q.length + 1)).map (prun t q)
/-- what comesTwice tells -/
def TwiceR (n : Nat) (xs : List Int) (e : Ending) : Prop := ∃ f l : Nat, ∃ b : Bool, e = .returned (.tuple #[.int .i64 (f : Int), .int .i64 (l : Int), .bool b]) ∧
      (b = true → f < l ∧ l < n ∧ xs[l]? = xs[f]? ∧ (∀ i, i < f → ∀ j, i < j → j < n → xs[j]? ≠ xs[i]?) ∧ ∀ j, l < j → j < n → xs[j]? ≠ xs[f]?) ∧ (b = false → ∀ i j, i < j → j < n → xs[j]? ≠ xs[i]?)
def lenV : Value → Nat
  | .slice _ n _ => n
  | _ => 0
def trk (t : TaskD) (p : List Int) (i : Nat) : List Int := (List.range i).map (prun t p)
end Go.Proofs.Ytfgebdioffeliaa

/- PlanShort of the reference. Printed by gen_shorts.py out of XShortS.src. -/
namespace Go.Proofs.Ytfgebdioffeliaa
set_option linter.unusedVariables false
set_option linter.unusedSimpArgs false
open Go.ChangeShapes Go.WideShapes Go.ChangeAt Go.RowKit

end Go.Proofs.Ytfgebdioffeliaa

/- slices.Contains, slices.Concat of two rows of numbers (and slices.Grow of nil under it). -/
namespace Go.Proofs.Ytfgebdioffeliaa
set_option linter.unusedVariables false
set_option linter.unusedSimpArgs false
open Go.ChangeShapes Go.WideShapes Go.ChangeAt Go.RowKit

end Go.Proofs.Ytfgebdioffeliaa

/- bookCopy, doneAfter and BookDo of the program. Printed by gen_do.py out of XDoI.src. -/
namespace Go.Proofs.Ytfgebdioffeliaa
set_option linter.unusedVariables false
set_option linter.unusedSimpArgs false
open Go.ChangeShapes Go.WideShapes Go.ChangeAt Go.RowKit

/-- what doneAfter gives -/
def GivesD (o : Option (List Int)) (w : World) (e : Ending) (w' : World) : Prop := ∃ v ds, e = .returned (.tuple #[v, .bool o.isSome]) ∧ (∀ d, o = some d → ds = d) ∧ St w w' [rInts v ds]
theorem GivesD.no {o : Option (List Int)} {w w' : World} (ho : o = none) (h : Below w.heap.size w w') : GivesD o w (.returned (.tuple #[.slice none 0 0, .bool false])) w' :=
  ⟨_, [], by rw [ho]; rfl, (fun d hd => by rw [ho] at hd; cases hd), rInts_nil _ _ h⟩
end Go.Proofs.Ytfgebdioffeliaa

/- BookDo of the program. -/
namespace Go.Proofs.Ytfgebdioffeliaa
set_option linter.unusedVariables false
set_option linter.unusedSimpArgs false
open Go.ChangeShapes Go.WideShapes Go.ChangeAt Go.RowKit

section
variable {w W W' : World} {L : List HRes}
end
end Go.Proofs.Ytfgebdioffeliaa

/- An operation of a region that its guard leaves out, in one step. -/
namespace Go.Proofs.Ytfgebdioffeliaa
open Go.ChangeShapes Go.WideShapes Go.ChangeAt Go.RowKit

theorem StepAll.skip {P : Program} {Q : Exit → Act → World → Prop} {σ : Type} {val : σ → Nat → Value} {R : (Nat → Bool) → σ → World → Prop} {a : Act} {ops : Array Oper} {o : Oper} {l : List Oper} {i : Nat} (j t : Nat) (v : Bool) (k : StepAll P Q val R a ops l (i + 1))
    (hg : o.guard = some (j, !v) := by rfl) (hb : (o.after.any fun e => Region.binds .any e && e.on == j) = true := by first | rfl | decide | kernel_rfl) (hdst : dstOf ops j = some t := by rfl) (hs : decide (t < a.tmps.size) = true := by kernel_rfl) (hl : decide (j < ops.size) = true := by kernel_rfl)
    (hv : ∀ s, val s j = .bool v := by intro _; rfl) (hu : ∀ s, val s i = undef := by intro _; rfl) (hR : ∀ D s w, R D s w → R (upd D i) s w := by intro _ _ _ h; exact h) : StepAll P Q val R a ops (o :: l) i :=
  StepAll.consG (fun D s wx h hDi hd hsh a' hS K hK => by
    obtain ⟨e, he, hx⟩ := Array.any_eq_true'.1 hb
    rw [Bool.and_eq_true] at hx
    have hj : D j = true := by
      have := hd e he hx.1
      rwa [eq_of_beq hx.2] at this
    have eg := hS.at_ j t (u := .bool v) hdst hj hs hl (hv s)
    rw [if_neg (by rw [hS.wants hg hdst eg hs]; cases v <;> simp)]
    have := hK s wx (fun _ _ => rfl) (hR D s wx h)
    rwa [hu s] at this) k
end Go.Proofs.Ytfgebdioffeliaa

/- l10Copy and BookDo of the reference. Printed by gen_dos.py out of XDoS.src. -/
namespace Go.Proofs.Ytfgebdioffeliaa
set_option linter.unusedVariables false
set_option linter.unusedSimpArgs false
open Go.ChangeShapes Go.WideShapes Go.ChangeAt Go.RowKit

theorem bookNew_yes (t : TaskD) (h : taskOk t = true) : bookNew t = ⟨t, [], t.start⟩ := by unfold bookNew; rw [if_pos h]
end Go.Proofs.Ytfgebdioffeliaa

/- A pick within a region that draws. -/
namespace Go.Proofs.Ytfgebdioffeliaa
set_option linter.unusedVariables false
set_option linter.unusedSimpArgs false
open Go.ChangeShapes Go.WideShapes Go.ChangeAt Go.RowKit

section
variable {w W W' : World} {Rs L : List HRes} {M : Nat → Option HRes}
theorem Sn.pick (h : Sn w W M) (k : Nat) {g hi : Nat} (hk : M k = some (rRd w g hi)) (hh : hi ≤ 549755813888) (m : Int) :
    Calls Try.prog 46 #[.pointer (some ⟨g, 0, none⟩), .int .i64 m] W fun e w' => ∃ x, e = .returned (.int .i64 x) ∧ InPick m x ∧ Sn w w' (fun i => if i = k then some (rRd w g (hi + 1)) else M i) := by
  obtain ⟨F, ⟨hF, p, A, n, c, xs, h1, h2, h3, h4⟩, hlo⟩ := h.get k hk
  have hg : w.heap.size ≤ g := hlo g (by rw [hF]; simp)
  have hR : Rdr W w.heap.size g p := ⟨hg, by omega, A, n, c, xs, h2, h3.below h.below, h4⟩
  refine (pick_any g w.heap.size p m W hR (by omega)).mono fun e w' ⟨⟨x, he, hx⟩, hgr, hr⟩ => ⟨x, he, hx, ?_⟩
  obtain ⟨-, -, A', n', c', ys, k1, k2, k3⟩ := hr
  have hb : Below w.heap.size W w' := (Below.refl _ _).grown hgr h.below.size (fun k hk => by cases hk; exact hg)
  have hrd : RdI .u8 w w.heap.size A' n' c' ys := ⟨k2.len, k2.cap, k2.capMax, k2.wf, fun hp => by
    obtain ⟨b, off, e, hbb, hc⟩ := k2.at_ hp
    exact ⟨b, off, e, hbb, fun i x hx => (bcells (h.below.trans hb) b _ hbb).symm.trans (hc i x hx)⟩⟩
  exact h.mod k hk fun F ⟨e, _⟩ _ => ⟨F, ⟨e, p + 1, A', n', c', ys, by omega, k1, hrd, k3⟩, fun b hb => .inl hb, by rw [e]; exact Only.of_grown hgr⟩
end
end Go.Proofs.Ytfgebdioffeliaa
