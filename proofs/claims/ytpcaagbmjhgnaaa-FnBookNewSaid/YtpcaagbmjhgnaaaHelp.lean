/- The laws' helpers, each in the words of St: copies, sizes, equality, marks. -/
import Derived.Test.YtpcaagbmjhgnaaaPush
import Derived.Test.YtpcaagbmjhgnaaaEq
import Derived.Test.YtpcaagbmjhgnaaaMark2
import Derived.Test.YtpcaagbmjhgnaaaCame
namespace Go.Proofs.Ytpcaagbmjhgnaaa
set_option linter.unusedVariables false
open Go.ChangeShapes Go.WideShapes Go.ChangeAt Go.RowKit

/-- it returns a value, and things of its own -/
def Gave (w : World) (v : Value) (L : List HRes) (e : Ending) (w' : World) : Prop := e = .returned v ∧ St w w' L
theorem toTask_st (v : Value) (t : TaskD) (w : World) (h : RdT w w.heap.size v t) : Calls Try.prog 26 #[v] w (Gives w id fun v' => [rTask v' t]) :=
  (toTask_any v t w h).mono fun e w' ⟨⟨v', F, he, ho, hn⟩, hb⟩ => ⟨v', he, St.of_task ho hn hb⟩
theorem toIntS_st (A : Option Addr) (n c : Nat) (xs : List Int) (w : World) (h : RdI .i64 w w.heap.size A n c xs) (hn : n ≤ 1048576) : Calls Try.prog 42 #[.slice A n c] w (Gives w id fun v' => [rInts v' xs]) :=
  (toIntS_own A n c xs w h (by omega)).mono fun e w' ⟨⟨A', c', F, he, ho⟩, hb⟩ => ⟨_, he, St.of_ints ho hb⟩
theorem eqTask_same (v : Value) (t : TaskD) (v' : Value) (w : World) (h : RdT w w.heap.size v t) (h' : RdT w w.heap.size v' t) :
    Calls Try.prog 19 #[v, v'] w fun e w' => e = .returned (.bool true) ∧ Below w.heap.size w w' :=
  (eqTask_any v t v' t w h h').mono fun _ _ ⟨he, hb⟩ => ⟨by rw [he, decide_eq_true rfl], hb⟩
theorem eqIntS_same (A : Option Addr) (n c : Nat) (xs : List Int) (A' : Option Addr) (n' c' : Nat) (w : World) (h : RdI .i64 w w.heap.size A n c xs) (h' : RdI .i64 w w.heap.size A' n' c' xs) :
    Calls Try.prog 44 #[.slice A n c, .slice A' n' c'] w fun e w' => e = .returned (.bool true) ∧ Below w.heap.size w w' :=
  (eqIntS_any A n c xs A' n' c' xs w h h').mono fun _ _ ⟨he, q, hb⟩ => ⟨by rw [he, decide_eq_true rfl], by rw [hb]; exact below_drewN (Below.refl _ _) q⟩
section
variable {w W : World} {L : List HRes}
theorem markTask_st (S : St w W L) (i : Nat) {v : Value} {t : TaskD} (hi : L[i]? = some (rTask v t)) (k : Nat) (hk : k + mkT t ≤ 1099511627776) :
    Calls Try.prog 22 #[v, .int .i64 k] W (fun e W' => e = .returned (.int .i64 (k + mkT t : Nat)) ∧ St w W' (L.set i (rTask v (markT k t)))) := by
  obtain ⟨F, ⟨h1, h2⟩, -⟩ := S.get i hi
  exact (markTask_any 0 v t F k W h1 h2 hk).mono fun e W' ⟨he, ho, hon⟩ => ⟨he, S.mod i hi fun F' ⟨g1, g2⟩ glo => by
    have : F' = F := by
      obtain ⟨gv, dv, Fg, Fd, cells, Fs, e1, a1, a2, a3, a4, a5⟩ := h1
      obtain ⟨gv', dv', Fg', Fd', cells', Fs', e1', b1, b2, b3, b4, b5⟩ := g1
      rw [e1] at e1'
      simp only [Value.agg.injEq, Array.mk.injEq, List.cons.injEq, and_true, true_and] at e1'
      obtain ⟨rfl, rfl⟩ := e1'
      have hc : cells' = cells := own_unique b3.row a3.row
      have hg : Fg' = Fg := by rw [b1.foot, a1.foot]
      subst hc hg
      have hfs : Fs' = Fs := by
        refine List.ext_getElem? fun j => ?_
        by_cases hj : j < t.deeds.length
        · have x1 : Fs'[j]? = some (Fs'[j]'(by rw [b3.flen]; exact hj)) := List.getElem?_eq_getElem _
          have x2 : Fs[j]? = some (Fs[j]'(by rw [a3.flen]; exact hj)) := List.getElem?_eq_getElem _
          obtain ⟨n1, q1, _, _, _, q2, _⟩ := b3.deed j _ _ (List.getElem?_eq_getElem hj) x1
          obtain ⟨n2, r1, _, _, _, r2, _⟩ := a3.deed j _ _ (List.getElem?_eq_getElem hj) x2
          rw [q1] at r1
          injection r1 with r1
          subst r1
          rw [x1, x2, q2.foot, r2.foot]
        · rw [List.getElem?_eq_none (by rw [b3.flen]; omega), List.getElem?_eq_none (by rw [a3.flen]; omega)]
      subst hfs
      rw [b4, a4, b3.foot, a3.foot]
    subst this
    exact ⟨F', ⟨ho, h2⟩, fun b hb => .inl hb, hon⟩⟩
theorem markIntS_st (S : St w W L) (i : Nat) {v : Value} {xs : List Int} (hi : L[i]? = some (rInts v xs)) (k : Nat) (hk : k ≤ 1099511627776) (hs : xs.length ≤ 1048576) :
    Calls Try.prog 45 #[v, .int .i64 k] W (fun e W' => e = .returned (.int .i64 (k + xs.length : Nat)) ∧ St w W' (L.set i (rInts v (marks k xs.length)))) := by
  obtain ⟨F, h1, -⟩ := S.get i hi
  exact (markIntS_any 0 v xs F k W h1 hk hs).mono fun e W' ⟨he, ho, hon⟩ => ⟨he, S.mod i hi fun F' g1 glo => by
    have : F' = F := by rw [g1.foot, h1.foot]
    subst this
    exact ⟨F', ho, fun b hb => .inl hb, hon⟩⟩
theorem St.formT (S : St w W L) (i : Nat) {v : Value} {t : TaskD} (hi : L[i]? = some (rTask v t)) : ∃ A n c A' n' c', v = .agg #[.int .i64 t.start, .slice A n c, .slice A' n' c'] := by
  obtain ⟨F, ⟨⟨gv, dv, Fg, Fd, cells, Fs, e, h1, h2, h3, -, h4⟩, -⟩, -⟩ := S.get i hi
  obtain ⟨A, c, rfl⟩ := own_form h1.row
  obtain ⟨A', c', rfl⟩ := own_form h3.row
  exact ⟨A, _, c, A', _, c', e⟩
theorem RdTM.form {M B : Nat} {v : Value} {t : TaskD} (h : RdTM M w B v t) : ∃ A n c A' n' c', v = .agg #[.int .i64 t.start, .slice A n c, .slice A' n' c'] := by
  obtain ⟨A, n, c, A', n', c', e, -⟩ := h
  exact ⟨A, n, c, A', n', c', e⟩
end
theorem Sn.rdT {w W : World} {M : Nat → Option HRes} (h : Sn w W M) (k : Nat) {v : Value} {t : TaskD} (hk : M k = some (rTask v t)) : RdT W W.heap.size v t := by
  obtain ⟨F, h1, -⟩ := h.get k hk; exact h1.1.rd
theorem Sn.rdI {w W : World} {M : Nat → Option HRes} (h : Sn w W M) (k : Nat) {v : Value} {xs : List Int} (hk : M k = some (rInts v xs)) : ∃ A c, v = .slice A xs.length c ∧ RdI .i64 W W.heap.size A xs.length c xs := by
  obtain ⟨F, h1, -⟩ := h.get k hk; exact h1.rd
theorem mkDs_le (ds : List DeedD) : mkDs ds ≤ 4 * szDs ds := by
  unfold mkDs szDs
  induction ds with
  | nil => simp
  | cons d ds ih => simp only [List.map_cons, List.sum_cons, List.length_cons, mkD, szD] at ih ⊢; omega
theorem mkT_le (t : TaskD) : mkT t ≤ 4 * szT t := by
  unfold mkT szT; have := mkDs_le t.deeds; omega
end Go.Proofs.Ytpcaagbmjhgnaaa
