/- comesTwice and PlanShort of the program. Printed by gen_short.py out of XShortI.src. -/
import Derived.Test.YtdbgoekemffimaaSMayW
import Derived.Test.YtdbgoekemffimaaSIntS
import Derived.Test.YtdbgoekemffimaaSPermD
namespace Go.Proofs.Ytdbgoekemffimaa
set_option linter.unusedVariables false
set_option linter.unusedSimpArgs false
open Go.ChangeShapes Go.WideShapes Go.ChangeAt Go.RowKit

/-- 'append(s, x...)' in a region that is walked by wp_reg; x may be empty -/
theorem wp_app1z {P : Program} {t e : TypeId} {z : Value} {size bytes : Nat} (E : ElemT P t e z size bytes) {w : World} {o : Oper} {a : Act} {K : Act → World → Prop} {Q : Exit → Act → World → Prop} (s x : Operand)
    (ho : o.op = .call { callee := .builtin .append, args := #[s, x], argTypes := #[t, t] })
    (base : Nat) (v : Value) (n : Nat) (xs : List Value) (hs : a.eval s = v) (hown : w.ownsRow base e size v n xs)
    (B : Nat) (A : Option Addr) (m c : Nat) (news : List Value) (hx : a.eval x = .slice A m c) (hr : RdRow w B size A m c news) (h1 : ∀ u ∈ news, u.oneCell' = true)
    (hbytes : (n + m) * bytes ≤ 140737488355328) (h63 : n + m ≤ 140737488355328) (hbase : base ≤ w.heap.size)
    (h : ∀ v' w', w'.ownsRow base e size v' (n + m) (xs ++ news) → w.grownBy w' v.ownBlock → (v'.ownBlock = v.ownBlock ∨ v'.ownBlock = some w.heap.size) → K (a.put o.dst v') w') :
    o.wp P a w K Q := by
  rcases Nat.eq_zero_or_pos m with hm | hm
  · subst hm
    obtain ⟨i, hi, hz, hsize, hby⟩ := E.hi
    obtain rfl : news = [] := List.eq_nil_of_length_eq_zero (by simpa using hr.len)
    have key : (Builtin.append_ #[t, t] o.type #[v, .slice A 0 c]).run P w = .ok v w := by
      rcases hown.2 with ⟨rfl, rfl⟩ | ⟨g, cap, cur, rfl, _, _, hnc, _⟩
      · cases A <;> simp [Builtin.append_, run_underlying E.ht, sizeOf, typeInfo, hi, Builtin.lenOf, Builtin.firstCells, loadCells, loadCellsFrom]
      · cases A <;> simp [Builtin.append_, run_underlying E.ht, sizeOf, typeInfo, hi, Builtin.lenOf, Builtin.firstCells, hnc, storeCells, loadCells, loadCellsFrom]
    unfold Oper.wp execOp
    simp only [ho, resolve, invoke, builtin, Sem.run_bind, Sem.run_pure, Result.andThen_ok, List.map_toArray, List.map_cons, List.map_nil, hs, hx, key]
    exact h v w (by simpa using hown) (World.grownBy.refl w _) (.inl rfl)
  · exact wp_app1 E s x ho base v n xs hs hown B A m c news hx hr hm h1 hbytes h63 hbase h
section
variable {w W W' : World} {M : Nat → Option HRes}
theorem Sn.ownCut (h : Sn w W M) (k : Nat) {g n c m : Nat} {xs : List Int} (hk : M k = some (rInts (.slice (some ⟨g, 0, none⟩) n c) xs)) (hn : xs.length = n) (hm : m ≤ n) : W.ownsRow 0 3 1 (.slice (some ⟨g, 0, none⟩) m c) m (Go.Proofs.Ytdbgoekemffimaa.ints (xs.take m)) := by
  obtain ⟨F, h1, -⟩ := h.get k hk
  have h2 := h1.row
  rw [hn] at h2
  have h3 := ownsRow_take h2 hm
  have e2 : Go.Proofs.Ytdbgoekemffimaa.ints (xs.take m) = (Go.Proofs.Ytdbgoekemffimaa.ints xs).take m := by simp [Go.Proofs.Ytdbgoekemffimaa.ints, List.map_take]
  rw [e2]; exact h3
theorem Sn.rdDrop (h : Sn w W M) (k : Nat) {g n c l : Nat} {xs : List Int} {AL : Option Addr} (hk : M k = some (rInts (.slice (some ⟨g, 0, none⟩) n c) xs)) (hl : l ≤ n) {CL : Nat} (hAL : (c = l → AL = some ⟨g, 0, none⟩ ∧ CL = 0) ∧ (c ≠ l → AL = some ⟨g, l, none⟩ ∧ CL = c - l)) : RdRow W W.heap.size 1 AL (n - l) CL (Go.Proofs.Ytdbgoekemffimaa.ints (xs.drop l)) := by
  have hr := h.rdI' k hk
  have hc := hr.cap
  by_cases e : c = l
  · obtain ⟨rfl, rfl⟩ := hAL.1 e
    have hn : n = l := by omega
    have hx : xs.drop l = [] := List.drop_of_length_le (by rw [hr.len]; omega)
    rw [hx]
    exact ⟨by simp [Go.Proofs.Ytdbgoekemffimaa.ints]; omega, by omega, by unfold maxLen; have := hr.capMax; unfold maxLen at this; omega, fun h0 => absurd h0 (by omega)⟩
  · obtain ⟨rfl, rfl⟩ := hAL.2 e
    exact (hr.dropAt l hl).row
theorem Sn.ownI (h : Sn w W M) (k : Nat) {v : Value} {xs : List Int} (hk : M k = some (rInts v xs)) : W.ownsRow 0 3 1 v xs.length (Go.Proofs.Ytdbgoekemffimaa.ints xs) := by
  obtain ⟨F, h1, -⟩ := h.get k hk
  exact h1.row
theorem Sn.appTo (h : Sn w W M) (k : Nat) {v v' : Value} {xs ys : List Int} {n : Nat} (hk : M k = some (rInts v xs)) (hn : n = xs.length + ys.length) (hown : W'.ownsRow 0 3 1 v' n (Go.Proofs.Ytdbgoekemffimaa.ints xs ++ Go.Proofs.Ytdbgoekemffimaa.ints ys)) (hwf : ∀ y ∈ ys, (Lit.int .i64 y).wf = true)
    (hg : W.grownBy W' v.ownBlock) (hat : v'.ownBlock = v.ownBlock ∨ v'.ownBlock = some W.heap.size) : Sn w W' (fun i => if i = k then some (rInts v' (xs ++ ys)) else M i) :=
  h.mod k hk fun F h1 _ => ⟨v'.ownBlock.toList, ⟨by subst hn; rw [List.length_append, ints_append]; exact hown, fun x hx => (List.mem_append.1 hx).elim (h1.wf x) (hwf x), rfl⟩, fun b hb => by
    rcases hat with e | e
    · left; rw [h1.foot, ← e]; exact hb
    · right; rw [e] at hb; simp at hb; omega, by rw [h1.foot]; exact Only.of_grown hg⟩
theorem Sn.appCut (h : Sn w W M) (k : Nat) {g n c f m : Nat} {xs a b : List Int} {v' : Value} (hk : M k = some (rInts (.slice (some ⟨g, 0, none⟩) n c) xs)) (hl : (a ++ b).length = m) (ha : ∀ y ∈ a, y ∈ xs) (hb : ∀ y ∈ b, y ∈ xs)
    (hown : W'.ownsRow 0 3 1 v' m (Go.Proofs.Ytdbgoekemffimaa.ints a ++ Go.Proofs.Ytdbgoekemffimaa.ints b)) (hg : W.grownBy W' (Value.slice (some ⟨g, 0, none⟩) f c).ownBlock) (hat : v'.ownBlock = (Value.slice (some ⟨g, 0, none⟩) f c).ownBlock ∨ v'.ownBlock = some W.heap.size) :
    Sn w W' (fun i => if i = k then some (rInts v' (a ++ b)) else M i) :=
  h.mod k hk fun F h1 _ => ⟨v'.ownBlock.toList, ⟨by rw [hl, ints_append]; exact hown, fun y hy => h1.wf y ((List.mem_append.1 hy).elim (ha y) (hb y)), rfl⟩, fun x hx => by
    rcases hat with e | e
    · left; rw [h1.foot]; rw [e] at hx; exact hx
    · right; rw [e] at hx; simp at hx; omega, by rw [h1.foot]; exact Only.of_grown hg⟩
end
/-- a new row with room, out of make -/
theorem St.ofMake {w w' : World} {g n : Nat} (hg0 : g = w.heap.size) (hown : w'.ownsRow w.heap.size 3 1 (.slice (some ⟨w.heap.size, 0, none⟩) 0 n) 0 []) (hg : w.grownBy w' none) : St w w' [rInts (.slice (some ⟨g, 0, none⟩) 0 n) []] := by
  subst hg0
  exact St.of_ints (F := [w.heap.size]) ⟨hown, by simp, rfl⟩ ((Below.refl _ _).grown hg (Nat.le_refl _) (by simp))
/-! ### the states of a plan -/
def trl (t : TaskD) (q : List Int) : List Int := (List.range (q.length + 1)).map (prun t q)
theorem trl_len (t : TaskD) (q : List Int) : (trl t q).length = q.length + 1 := by simp [trl]
theorem trl_at (t : TaskD) (q : List Int) {j : Nat} (h : j ≤ q.length) : (trl t q)[j]? = some (prun t q j) := by
  unfold trl; rw [List.getElem?_map, List.getElem?_range (by omega)]; rfl
theorem trl_cut {t : TaskD} {q : List Int} (h : 0 ≤ planRun t t.start q) {f l : Nat} (hfl : f ≤ l) (hl : l ≤ q.length) (e : prun t q l = prun t q f) : trl t (q.take f ++ q.drop l) = (trl t q).take f ++ (trl t q).drop l := by
  have hlen : (q.take f ++ q.drop l).length = f + (q.length - l) := by simp; omega
  refine List.ext_getElem? fun j => ?_
  have hp := prun_cut h hfl hl e j
  have htl : ((trl t q).take f).length = f := by rw [List.length_take, trl_len]; omega
  by_cases hj : j ≤ f + (q.length - l)
  · rw [trl_at _ _ (by omega), hp]
    by_cases hjf : j < f
    · rw [if_pos (by omega), List.getElem?_append_left (by omega), List.getElem?_take_of_lt hjf, trl_at _ _ (by omega)]
    · rw [List.getElem?_append_right (by omega), htl, List.getElem?_drop, trl_at _ _ (by omega)]
      by_cases hjf' : j = f
      · subst hjf'
        rw [if_pos (Nat.le_refl _), Nat.sub_self, Nat.add_zero, e]
      · rw [if_neg (by omega), Nat.add_comm]
  · rw [List.getElem?_eq_none (by rw [trl_len]; omega), List.getElem?_eq_none (by rw [List.length_append, htl, List.length_drop, trl_len]; omega)]
/-- one more deed of a plan that is done -/
theorem prun_next {t : TaskD} {p : List Int} (h : 0 ≤ planRun t t.start p) {i : Nat} {x : Int} (hx : p[i]? = some x) :
    ∃ (m : Nat) (d : DeedD) (s s' : Nat), x = (m : Int) ∧ t.deeds[m]? = some d ∧ prun t p i = (s : Int) ∧ s < 32 ∧ deedDo d s = some s' ∧ s' < 32 ∧ prun t p (i + 1) = (s' : Int) := by
  obtain ⟨h1, h2, h3, -⟩ := (planRun_bd t t.start p).1 h
  have hs := (stIn_iff _).1 h2
  obtain ⟨hi, hxe⟩ := List.getElem?_eq_some_iff.1 hx
  have e : ∀ j, prun t p j = opt (runP t t.start.toNat (p.take j)) := fun j => by
    unfold prun planRun
    rw [if_pos ⟨h1, h2, by simp; omega⟩]
  have g : ∀ j, 0 ≤ prun t p j := fun j => (planRun_part h j).1
  have g0 := g i
  have g1 := g (i + 1)
  rw [e] at g0 g1
  obtain ⟨s, hs0⟩ := opt_nonneg.1 g0
  obtain ⟨s', hs1⟩ := opt_nonneg.1 g1
  have hst := runP_step t t.start.toNat p i x hx s hs0
  rw [hs1] at hst
  have hs32 : s < 32 := runP_lt t _ _ s h1 (by omega) hs0
  have hs32' : s' < 32 := runP_lt t _ _ s' h1 (by omega) hs1
  have hst' := hst.symm
  unfold stepP at hst'
  split at hst'
  · next hc =>
    obtain ⟨m, rfl⟩ := Int.eq_ofNat_of_zero_le hc.1
    rw [Int.toNat_natCast] at hst'
    obtain ⟨d, hd, hdo⟩ := Option.bind_eq_some_iff.1 hst'
    exact ⟨m, d, s, s', rfl, hd, by rw [e, hs0]; rfl, hs32, hdo, hs32', by rw [e, hs1]; rfl⟩
  · cases hst'
/-- what comesTwice tells -/
def TwiceR (n : Nat) (xs : List Int) (e : Ending) : Prop := ∃ f l : Nat, ∃ b : Bool, e = .returned (.tuple #[.int .i64 (f : Int), .int .i64 (l : Int), .bool b]) ∧
      (b = true → f < l ∧ l < n ∧ xs[l]? = xs[f]? ∧ (∀ i, i < f → ∀ j, i < j → j < n → xs[j]? ≠ xs[i]?) ∧ ∀ j, l < j → j < n → xs[j]? ≠ xs[f]?) ∧ (b = false → ∀ i j, i < j → j < n → xs[j]? ≠ xs[i]?)
def lenV : Value → Nat
  | .slice _ n _ => n
  | _ => 0
theorem planShort_no (t : TaskD) (p : List Int) (h : planRun t t.start p < 0) : planShort t p = none := if_pos h
theorem planShort_yes (t : TaskD) (p : List Int) (h : 0 ≤ planRun t t.start p) : planShort t p = some (shortN t p 41) := if_neg (by omega)
theorem prun_zero (t : TaskD) (p : List Int) (h : 0 ≤ planRun t t.start p) : prun t p 0 = t.start := by
  obtain ⟨h1, h2, h3, -⟩ := (planRun_bd t t.start p).1 h
  have hs := (stIn_iff _).1 h2
  unfold prun planRun
  rw [if_pos ⟨h1, h2, by simp⟩]
  simp only [List.take_zero, runP, opt]
  omega
def trk (t : TaskD) (p : List Int) (i : Nat) : List Int := (List.range i).map (prun t p)
theorem trk_len (t : TaskD) (p : List Int) (i : Nat) : (trk t p i).length = i := by simp [trk]
theorem trk_succ (t : TaskD) (p : List Int) (i : Nat) : trk t p (i + 1) = trk t p i ++ [prun t p i] := by simp [trk, List.range_succ]
end Go.Proofs.Ytdbgoekemffimaa
