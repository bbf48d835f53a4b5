/- Joined texts: TDraw2, PermD, ShortI, Conc, DoI, DoI2, Pack, L20Act. -/
import Derived.Test.YtdbgoekemffimaaSFront
import Derived.Test.YtdbgoekemffimaaSDsPut
import Derived.Test.YtdbgoekemffimaaSPlanForW
import Derived.Test.YtdbgoekemffimaaSSz
import Derived.Test.YtdbgoekemffimaaSDoP
import Derived.Test.YtdbgoekemffimaaSCopy
import Derived.Lib.AppendZeros
import Derived.Test.YtdbgoekemffimaaSBook
/- The draw of a task: some task of its own, with few deeds. Printed by gen_tdraw.py. -/
namespace Go.Proofs.Ytdbgoekemffimaa
set_option linter.unusedVariables false
set_option linter.unusedSimpArgs false
open Go.ChangeShapes Go.WideShapes Go.ChangeAt Go.RowKit
def up5 (i : Nat) : Nat := if i < 5 then i else i + 2
def dn6 (i : Nat) : Nat := if i = 0 then 0 else if i < 5 then i + 1 else if i = 5 then 1 else i - 1
def dn5 (i : Nat) : Nat := if i < 5 then i else i - 2
def DeedB (m : Int) (d : DeedD) : Prop := d.need.length ≤ 4 ∧ (-m ≤ d.on ∧ d.on ≤ m) ∧ (-m ≤ d.off ∧ d.off ≤ m) ∧ (-m ≤ d.flip ∧ d.flip ≤ m)
abbrev DeedSm (d : DeedD) : Prop := DeedB 200 d
theorem DeedB.mono {m m' : Int} {d : DeedD} (h : DeedB m d) (hm : m ≤ m') : DeedB m' d := by
  obtain ⟨h1, h2, h3, h4⟩ := h
  exact ⟨h1, by omega, by omega, by omega⟩
def TaskSm (t : TaskD) : Prop := t.goal.length ≤ 6 ∧ t.deeds.length ≤ 7 ∧ (-1 ≤ t.start ∧ t.start ≤ 32) ∧ ∀ d ∈ t.deeds, DeedB 600 d
end Go.Proofs.Ytdbgoekemffimaa

/- l20Perm within a list of things: it draws a row of small numbers. -/
namespace Go.Proofs.Ytdbgoekemffimaa
set_option linter.unusedVariables false
set_option linter.unusedSimpArgs false
open Go.ChangeShapes Go.WideShapes Go.ChangeAt Go.RowKit

end Go.Proofs.Ytdbgoekemffimaa

/- comesTwice and PlanShort of the program. Printed by gen_short.py out of XShortI.src. -/
namespace Go.Proofs.Ytdbgoekemffimaa
set_option linter.unusedVariables false
set_option linter.unusedSimpArgs false
open Go.ChangeShapes Go.WideShapes Go.ChangeAt Go.RowKit

/-- 'append(s, x...)' in a region that is walked by wp_reg; x may be empty -/
theorem wp_app1z {P : Program} {t e : TypeId} {z : Value} {size bytes : Nat} (E : ElemT P t e z size bytes) {w : World} {o : Oper} {a : Act} {K : Act → World → Prop} {Q : Exit → Act → World → Prop} (s x : Operand)
    (ho : o.op = .call { callee := .builtin .append, args := #[s, x], argTypes := #[t, t] })
    (base : Nat) (v : Value) (n : Nat) (xs : List Value) (hs : a.eval s = v) (hown : w.ownsRow base e size v n xs)
    (B : Nat) (A : Option Addr) (m c : Nat) (news : List Value) (hx : a.eval x = .slice A m c) (hr : RdRow w B size A m c news) (h1 : ∀ u ∈ news, u.oneCell' = true)
    (hbytes : (n + m) * bytes ≤ 140737488355328) (h63 : n + m ≤ 140737488355328) (hbase : base ≤ w.heap.size)
    (h : ∀ v' w', w'.ownsRow base e size v' (n + m) (xs ++ news) → w.grownBy w' v.ownBlock → (v'.ownBlock = v.ownBlock ∨ v'.ownBlock = some w.heap.size) → K (a.put o.dst v') w') :
    o.wp P a w K Q := by
  rcases Nat.eq_zero_or_pos m with hm | hm
  · subst hm
    obtain ⟨i, hi, hz, hsize, hby⟩ := E.hi
    obtain rfl : news = [] := List.eq_nil_of_length_eq_zero (by simpa using hr.len)
    have key : (Builtin.append_ #[t, t] o.type #[v, .slice A 0 c]).run P w = .ok v w := by
      rcases hown.2 with ⟨rfl, rfl⟩ | ⟨g, cap, cur, rfl, _, _, hnc, _⟩
      · cases A <;> simp [Builtin.append_, run_underlying E.ht, sizeOf, typeInfo, hi, Builtin.lenOf, Builtin.firstCells, loadCells, loadCellsFrom]
      · cases A <;> simp [Builtin.append_, run_underlying E.ht, sizeOf, typeInfo, hi, Builtin.lenOf, Builtin.firstCells, hnc, storeCells, loadCells, loadCellsFrom]
    unfold Oper.wp execOp
    simp only [ho, resolve, invoke, builtin, Sem.run_bind, Sem.run_pure, Result.andThen_ok, List.map_toArray, List.map_cons, List.map_nil, hs, hx, key]
    exact h v w (by simpa using hown) (World.grownBy.refl w _) (.inl rfl)
  · exact wp_app1 E s x ho base v n xs hs hown B A m c news hx hr hm h1 hbytes h63 hbase h
section
variable {w W W' : World} {M : Nat → Option HRes}
theorem Sn.ownI (h : Sn w W M) (k : Nat) {v : Value} {xs : List Int} (hk : M k = some (rInts v xs)) : W.ownsRow 0 3 1 v xs.length (Go.Proofs.Ytdbgoekemffimaa.ints xs) := by
  obtain ⟨F, h1, -⟩ := h.get k hk
  exact h1.row
theorem Sn.appTo (h : Sn w W M) (k : Nat) {v v' : Value} {xs ys : List Int} {n : Nat} (hk : M k = some (rInts v xs)) (hn : n = xs.length + ys.length) (hown : W'.ownsRow 0 3 1 v' n (Go.Proofs.Ytdbgoekemffimaa.ints xs ++ Go.Proofs.Ytdbgoekemffimaa.ints ys)) (hwf : ∀ y ∈ ys, (Lit.int .i64 y).wf = true)
    (hg : W.grownBy W' v.ownBlock) (hat : v'.ownBlock = v.ownBlock ∨ v'.ownBlock = some W.heap.size) : Sn w W' (fun i => if i = k then some (rInts v' (xs ++ ys)) else M i) :=
  h.mod k hk fun F h1 _ => ⟨v'.ownBlock.toList, ⟨by subst hn; rw [List.length_append, ints_append]; exact hown, fun x hx => (List.mem_append.1 hx).elim (h1.wf x) (hwf x), rfl⟩, fun b hb => by
    rcases hat with e | e
    · left; rw [h1.foot, ← e]; exact hb
    · right; rw [e] at hb; simp at hb; omega, by rw [h1.foot]; exact Only.of_grown hg⟩
end
/-! ### the states of a plan -/
def trl (t : TaskD) (q : List Int) : List Int := (List.range (q.length + 1)).map (prun t q)
/-- what comesTwice tells -/
def TwiceR (n : Nat) (xs : List Int) (e : Ending) : Prop := ∃ f l : Nat, ∃ b : Bool, e = .returned (.tuple #[.int .i64 (f : Int), .int .i64 (l : Int), .bool b]) ∧
      (b = true → f < l ∧ l < n ∧ xs[l]? = xs[f]? ∧ (∀ i, i < f → ∀ j, i < j → j < n → xs[j]? ≠ xs[i]?) ∧ ∀ j, l < j → j < n → xs[j]? ≠ xs[f]?) ∧ (b = false → ∀ i j, i < j → j < n → xs[j]? ≠ xs[i]?)
def lenV : Value → Nat
  | .slice _ n _ => n
  | _ => 0
def trk (t : TaskD) (p : List Int) (i : Nat) : List Int := (List.range i).map (prun t p)
end Go.Proofs.Ytdbgoekemffimaa

/- slices.Contains, slices.Concat of two rows of numbers (and slices.Grow of nil under it). -/
namespace Go.Proofs.Ytdbgoekemffimaa
set_option linter.unusedVariables false
set_option linter.unusedSimpArgs false
open Go.ChangeShapes Go.WideShapes Go.ChangeAt Go.RowKit

end Go.Proofs.Ytdbgoekemffimaa

/- bookCopy, doneAfter and BookDo of the program. Printed by gen_do.py out of XDoI.src. -/
namespace Go.Proofs.Ytdbgoekemffimaa
set_option linter.unusedVariables false
set_option linter.unusedSimpArgs false
open Go.ChangeShapes Go.WideShapes Go.ChangeAt Go.RowKit

/-- what doneAfter gives -/
def GivesD (o : Option (List Int)) (w : World) (e : Ending) (w' : World) : Prop := ∃ v ds, e = .returned (.tuple #[v, .bool o.isSome]) ∧ (∀ d, o = some d → ds = d) ∧ St w w' [rInts v ds]
theorem GivesD.no {o : Option (List Int)} {w w' : World} (ho : o = none) (h : Below w.heap.size w w') : GivesD o w (.returned (.tuple #[.slice none 0 0, .bool false])) w' :=
  ⟨_, [], by rw [ho]; rfl, (fun d hd => by rw [ho] at hd; cases hd), rInts_nil _ _ h⟩
end Go.Proofs.Ytdbgoekemffimaa

/- BookDo of the program. -/
namespace Go.Proofs.Ytdbgoekemffimaa
set_option linter.unusedVariables false
set_option linter.unusedSimpArgs false
open Go.ChangeShapes Go.WideShapes Go.ChangeAt Go.RowKit

section
variable {w W W' : World} {L : List HRes}
/-- the first thing parted in two -/
theorem St.split {R R₁ R₂ : HRes} (h : St w W (R :: L)) (k : ∀ F, R.at_ W F → ∃ F1 F2, F = F1 ++ F2 ∧ R₁.at_ W F1 ∧ R₂.at_ W F2) : St w W (R₁ :: R₂ :: L) := by
  obtain ⟨Fs, kl, ha, hnd⟩ := h.has
  match Fs, kl, ha, hnd with
  | F :: Fs, kl, ha, hnd =>
    obtain ⟨a1, a2⟩ := ha 0 _ F rfl rfl
    obtain ⟨F1, F2, rfl, b1, b2⟩ := k F a1
    refine ⟨h.below, F1 :: F2 :: Fs, by simpa using kl, fun i R' F' hR hF => ?_, by simpa using hnd⟩
    match i with
    | 0 =>
      injection hR with hR; injection hF with hF; subst hR hF
      exact ⟨b1, fun x hx => a2 x (List.mem_append_left _ hx)⟩
    | 1 =>
      simp only [List.getElem?_cons_succ, List.getElem?_cons_zero, Option.some.injEq] at hR hF
      subst hR hF
      exact ⟨b2, fun x hx => a2 x (List.mem_append_right _ hx)⟩
    | i + 2 => exact ha (i + 1) R' F' (by simpa using hR) (by simpa using hF)
end
end Go.Proofs.Ytdbgoekemffimaa

/- Several things of the list taken as one, and parted again; picks within a region that draws. -/
namespace Go.Proofs.Ytdbgoekemffimaa
set_option linter.unusedVariables false
set_option linter.unusedSimpArgs false
open Go.ChangeShapes Go.WideShapes Go.ChangeAt Go.RowKit

section
variable {w W W' : World} {Rs L : List HRes} {M : Nat → Option HRes}
theorem St.pack (h : St w W (Rs ++ L)) : St w W (Rs ++ [rAll L]) := by
  obtain ⟨Fs, kl, ha, hn⟩ := h.has
  have hl : Fs.length = Rs.length + L.length := by rw [kl, List.length_append]
  have e : Fs = Fs.take Rs.length ++ Fs.drop Rs.length := (List.take_append_drop ..).symm
  have hn2 := hn
  rw [e, List.flatten_append] at hn2
  refine ⟨h.below, Fs.take Rs.length ++ [(Fs.drop Rs.length).flatten], by simp; omega, fun i R F hR hF => ?_, by rw [List.flatten_append]; simpa using hn2⟩
  rcases Nat.lt_or_ge i Rs.length with hi | hi
  · rw [List.getElem?_append_left hi] at hR
    rw [List.getElem?_append_left (by simp; omega), List.getElem?_take_of_lt hi] at hF
    exact ha i R F (by rw [List.getElem?_append_left hi]; exact hR) hF
  · rw [List.getElem?_append_right hi] at hR
    rw [List.getElem?_append_right (by simp; omega)] at hF
    have hi0 : i = Rs.length := by
      have := (List.getElem?_eq_some_iff.1 hR).1
      simp at this; omega
    subst hi0
    rw [Nat.sub_self] at hR
    rw [show Rs.length - (Fs.take Rs.length).length = 0 by simp; omega] at hF
    simp only [List.getElem?_cons_zero, Option.some.injEq] at hR hF
    subst hR hF
    have hat : ∀ (j : Nat) R G, L[j]? = some R → (Fs.drop Rs.length)[j]? = some G → R.at_ W G ∧ ∀ b ∈ G, w.heap.size ≤ b := fun j R G hR hG => by
      rw [List.getElem?_drop] at hG
      exact ha (Rs.length + j) R G (by rw [List.getElem?_append_right (by omega), Nat.add_sub_cancel_left]; exact hR) hG
    refine ⟨⟨Fs.drop Rs.length, by simp; omega, fun j R G hR hG => (hat j R G hR hG).1, (List.nodup_append.1 hn2).2.1, rfl⟩, fun b hb => ?_⟩
    obtain ⟨G, hG, hb⟩ := List.mem_flatten.1 hb
    obtain ⟨j, hj⟩ := List.mem_iff_getElem?.1 hG
    have hjl : j < L.length := by have := (List.getElem?_eq_some_iff.1 hj).1; simp at this; omega
    exact (hat j _ G (List.getElem?_eq_getElem hjl) hj).2 b hb
theorem St.unpack (h : St w W (Rs ++ [rAll L])) : St w W (Rs ++ L) := by
  obtain ⟨Fs, kl, ha, hn⟩ := h.has
  have hl : Fs.length = Rs.length + 1 := by simpa using kl
  have hF : Fs[Rs.length]? = some (Fs[Rs.length]'(by omega)) := List.getElem?_eq_getElem _
  generalize Fs[Rs.length]'(by omega) = F at hF
  obtain ⟨⟨Gs, g1, g2, g3, g4⟩, h2⟩ := ha Rs.length (rAll L) F (by simp) hF
  have e : Fs = Fs.take Rs.length ++ [F] := by
    have h1 := (List.take_append_drop Rs.length Fs).symm
    have h3 : Fs.drop Rs.length = [F] := by
      obtain ⟨hlt, he⟩ := List.getElem?_eq_some_iff.1 hF
      rw [List.drop_eq_getElem_cons hlt, he, List.drop_of_length_le (by omega)]
    rw [h3] at h1; exact h1
  refine ⟨h.below, Fs.take Rs.length ++ Gs, by simp; omega, fun i R G hR hG => ?_, ?_⟩
  · rcases Nat.lt_or_ge i Rs.length with hi | hi
    · rw [List.getElem?_append_left hi] at hR
      rw [List.getElem?_append_left (by simp; omega), List.getElem?_take_of_lt hi] at hG
      exact ha i R G (by rw [List.getElem?_append_left hi]; exact hR) hG
    · rw [List.getElem?_append_right hi] at hR
      rw [List.getElem?_append_right (by simp; omega), show (Fs.take Rs.length).length = Rs.length by simp; omega] at hG
      exact ⟨g2 _ R G hR hG, fun b hb => h2 b (by rw [g4]; exact mem_flat hG hb)⟩
  · rw [List.flatten_append]
    rw [e, List.flatten_append] at hn
    rw [show [F].flatten = F by simp, g4] at hn
    exact hn
theorem Sn.pick (h : Sn w W M) (k : Nat) {g hi : Nat} (hk : M k = some (rRd w g hi)) (hh : hi ≤ 549755813888) (m : Int) :
    Calls Try.prog 101 #[.pointer (some ⟨g, 0, none⟩), .int .i64 m] W fun e w' => ∃ x, e = .returned (.int .i64 x) ∧ InPick m x ∧ Sn w w' (fun i => if i = k then some (rRd w g (hi + 1)) else M i) := by
  obtain ⟨F, ⟨hF, p, A, n, c, xs, h1, h2, h3, h4⟩, hlo⟩ := h.get k hk
  have hg : w.heap.size ≤ g := hlo g (by rw [hF]; simp)
  have hR : Rdr W w.heap.size g p := ⟨hg, by omega, A, n, c, xs, h2, h3.below h.below, h4⟩
  refine (pick_any g w.heap.size p m W hR (by omega)).mono fun e w' ⟨⟨x, he, hx⟩, hgr, hr⟩ => ⟨x, he, hx, ?_⟩
  obtain ⟨-, -, A', n', c', ys, k1, k2, k3⟩ := hr
  have hb : Below w.heap.size W w' := (Below.refl _ _).grown hgr h.below.size (fun k hk => by cases hk; exact hg)
  have hrd : RdI .u8 w w.heap.size A' n' c' ys := ⟨k2.len, k2.cap, k2.capMax, k2.wf, fun hp => by
    obtain ⟨b, off, e, hbb, hc⟩ := k2.at_ hp
    exact ⟨b, off, e, hbb, fun i x hx => (bcells (h.below.trans hb) b _ hbb).symm.trans (hc i x hx)⟩⟩
  exact h.mod k hk fun F ⟨e, _⟩ _ => ⟨F, ⟨e, p + 1, A', n', c', ys, by omega, k1, hrd, k3⟩, fun b hb => .inl hb, by rw [e]; exact Only.of_grown hgr⟩
end
end Go.Proofs.Ytdbgoekemffimaa

/- The draw of an act. Printed by gen_l20act.py. -/
namespace Go.Proofs.Ytdbgoekemffimaa
set_option linter.unusedVariables false
set_option linter.unusedSimpArgs false
open Go.ChangeShapes Go.WideShapes Go.ChangeAt Go.RowKit

def kd (x : Int) : Int := ([0, 0, 0, 0, 0, 1, 1, 2, 3] : List Int).getD x.toNat 0
def q60 (x : Int) : Int := if x < 59 then 0 else 1
end Go.Proofs.Ytdbgoekemffimaa
