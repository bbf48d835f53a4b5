/- Joined texts: Came, Help, PlanW. -/
import Derived.Test.YtkimgdfcgfhibaaDoorSSz
import Derived.Deep.Slices
import Derived.ChangeOld
import Derived.Test.YtkimgdfcgfhibaaDoorSPush
import Derived.Test.YtkimgdfcgfhibaaDoorSEq
import Derived.Test.YtkimgdfcgfhibaaDoorSSt
/- Arguments that came in: graphs, deeds, tasks, books, acts, as the walks read them. -/
namespace Go.Proofs.YtkimgdfcgfhibaaDoor
set_option linter.unusedVariables false
set_option linter.unusedSimpArgs false
open Go.ChangeShapes Go.WideShapes Go.ChangeAt Go.RowKit Go.Deep

/-- in w, below block B, v reads as this book -/
def RdBM (M : Nat) (w : World) (B : Nat) (v : Value) (b : BookD) : Prop :=
  ∃ A n c A' n' c' A2 n2 c2, v = .agg #[.int .i64 b.order.start, .slice A n c, .slice A' n' c', .slice A2 n2 c2, .int .i64 b.state] ∧ RdI .i64 w B A n c b.order.goal ∧ n ≤ M ∧ RdDsM M w B A' n' c' b.order.deeds ∧ (Lit.int .i64 b.order.start).wf = true ∧
    RdI .i64 w B A2 n2 c2 b.done ∧ n2 ≤ M ∧ (Lit.int .i64 b.state).wf = true
abbrev RdB := RdBM 1048576
theorem RdBM.up {M : Nat} {w w' : World} {v : Value} {b : BookD} (h : RdBM M w w.heap.size v b) (hb : Below w.heap.size w w') : RdBM M w' w'.heap.size v b := by
  obtain ⟨A, n, c, A', n', c', A2, n2, c2, e, h1, h2, h3, h4, h5, h6⟩ := h
  exact ⟨A, n, c, A', n', c', A2, n2, c2, e, h1.up hb, h2, h3.up hb, h4, h5.up hb, h6⟩
theorem RdDsM.less {M M' : Nat} {w : World} {B n c : Nat} {A : Option Addr} {ds : List DeedD} (h : RdDsM M w B A n c ds) (hn : n ≤ M') (hd : ∀ d ∈ ds, d.need.length ≤ M') : RdDsM M' w B A n c ds :=
  ⟨h.len, h.cap, h.capMax, hn, fun h0 => by
    obtain ⟨b, off, e, hb, hc⟩ := h.at_ h0
    refine ⟨b, off, e, hb, fun i d hi => ?_⟩
    obtain ⟨A, n, c, q0, q1, q2, q3, q4, q5, q6⟩ := hc i d hi
    exact ⟨A, n, c, q0, q1, q2, q3, q4, by have := hd d (List.mem_of_getElem? hi); rw [q4.len] at this; exact this, q6⟩⟩
theorem szDs_each {ds : List DeedD} {d : DeedD} (h : d ∈ ds) : d.need.length ≤ szDs ds := by
  unfold szDs
  have : szD d ≤ (ds.map szD).sum := by
    induction ds with
    | nil => cases h
    | cons x ds ih =>
      simp only [List.map_cons, List.sum_cons]
      rcases List.mem_cons.1 h with rfl | h
      · omega
      · have := ih h; omega
  unfold szD at this ⊢
  omega
theorem RdTM.less {M M' : Nat} {w : World} {B : Nat} {v : Value} {t : TaskD} (h : RdTM M w B v t) (hs : szT t ≤ M') : RdTM M' w B v t := by
  obtain ⟨A, n, c, A', n', c', e, h1, h2, h3, h4⟩ := h
  have hl := h1.len
  have hl' := h3.len
  unfold szT at hs
  have : szDs t.deeds = n' + (t.deeds.map szD).sum := by unfold szDs; rw [hl']
  exact ⟨A, n, c, A', n', c', e, h1, by omega, h3.less (by omega) (fun d hd => by have := szDs_each hd; omega), h4⟩

theorem len1 {α : Type} {l : List α} (h : l.length = 1) : ∃ a, l = [a] := List.length_eq_one_iff.1 h
theorem len_succ {α : Type} {l : List α} {n : Nat} (h : l.length = n + 1) : ∃ a r, l = a :: r ∧ r.length = n := by
  cases l with
  | nil => simp at h
  | cons a r => exact ⟨a, r, rfl, by simpa using h⟩
theorem len2 {α : Type} {l : List α} (h : l.length = 2) : ∃ a b, l = [a, b] := by
  obtain ⟨a, r, e', k⟩ := len_succ h; subst e'; obtain ⟨b, rfl⟩ := len1 k; exact ⟨a, b, rfl⟩
theorem len3 {α : Type} {l : List α} (h : l.length = 3) : ∃ a b c, l = [a, b, c] := by
  obtain ⟨a, r, e', k⟩ := len_succ h; subst e'; obtain ⟨b, c, rfl⟩ := len2 k; exact ⟨a, b, c, rfl⟩
theorem len4 {α : Type} {l : List α} (h : l.length = 4) : ∃ a b c d, l = [a, b, c, d] := by
  obtain ⟨a, r, e', k⟩ := len_succ h; subst e'; obtain ⟨b, c, d, rfl⟩ := len3 k; exact ⟨a, b, c, d, rfl⟩
section
variable {H : Type} {enc : TypeId × Value → H} {W : World} {base : Nat} {spare : Nat → Bool} {held : Bool} {fuel : Nat} {cs : List Value} {x : DataW H × List MemPlace}
theorem camC_ints (h : DataW.trod enc Tryd.prog W base spare held fuel 23 cs = some x) : ∃ A n c xs, cs = [.slice A n c] ∧ RdI .i64 W W.heap.size A n c xs := by
  rcases open_ints Tryd.underlying23 Tryd.underlying3 (by kernel_rfl) h with ⟨hcs, _⟩ | ⟨a, l, cc, zs, hcs, _⟩
  · subst hcs
    obtain ⟨xs, hx⟩ := rdI_of_came (c := 0) (A := none) (n := 0) Tryd.underlying23 Tryd.underlying3 (by kernel_rfl) h
    exact ⟨_, _, _, xs, rfl, hx⟩
  · subst hcs
    obtain ⟨xs, hx⟩ := rdI_of_came (c := cc) (A := some a) (n := l) Tryd.underlying23 Tryd.underlying3 (by kernel_rfl) h
    exact ⟨_, _, _, xs, rfl, hx⟩
theorem camC_deed (h : DataW.trod enc Tryd.prog W base spare held fuel 111 cs = some x) : ∃ A n c, ∃ d : DeedD, cs = [.slice A n c, .int .i64 d.on, .int .i64 d.off, .int .i64 d.flip] ∧ RdI .i64 W W.heap.size A n c d.need ∧ (Lit.int .i64 d.on).wf = true ∧ (Lit.int .i64 d.off).wf = true ∧ (Lit.int .i64 d.flip).wf = true := by
  obtain ⟨ys, m, _, _, hl, hyl, hf⟩ := DataW.trod_struct Tryd.underlying111 h
  have hc : Tryd.prog.cellsOf 111 = 4 := by kernel_rfl
  rw [hc] at hl
  obtain ⟨c0, c1, c2, c3, rfl⟩ := len4 hl
  obtain ⟨y0, y1, y2, y3, rfl⟩ := len4 hyl
  · have h0 : DataW.trod enc Tryd.prog W base spare held m 23 (([c0, c1, c2, c3].drop 0).take (Tryd.prog.cellsOf 23)) = some y0 := hf 0 _ rfl
    rw [show Tryd.prog.cellsOf 23 = 1 by kernel_rfl] at h0
    have h1 : DataW.trod enc Tryd.prog W base spare held m 3 (([c0, c1, c2, c3].drop 1).take (Tryd.prog.cellsOf 3)) = some y1 := hf 1 _ rfl
    rw [show Tryd.prog.cellsOf 3 = 1 by kernel_rfl] at h1
    have h2 : DataW.trod enc Tryd.prog W base spare held m 3 (([c0, c1, c2, c3].drop 2).take (Tryd.prog.cellsOf 3)) = some y2 := hf 2 _ rfl
    rw [show Tryd.prog.cellsOf 3 = 1 by kernel_rfl] at h2
    have h3 : DataW.trod enc Tryd.prog W base spare held m 3 (([c0, c1, c2, c3].drop 3).take (Tryd.prog.cellsOf 3)) = some y3 := hf 3 _ rfl
    rw [show Tryd.prog.cellsOf 3 = 1 by kernel_rfl] at h3
    simp only [List.drop, List.take, List.getElem?_cons_zero, List.getElem?_cons_succ] at h0 h1 h2 h3
    obtain ⟨A, n, c, xs, e0, hr⟩ := camC_ints h0
    obtain ⟨a1, e1, _, w1⟩ := DataW.trod_int Tryd.underlying3 h1
    obtain ⟨a2, e2, _, w2⟩ := DataW.trod_int Tryd.underlying3 h2
    obtain ⟨a3, e3, _, w3⟩ := DataW.trod_int Tryd.underlying3 h3
    simp only [List.cons.injEq, and_true] at e0 e1 e2 e3
    subst e0 e1 e2 e3
    exact ⟨A, n, c, ⟨xs, a1, a2, a3⟩, rfl, hr, w1, w2, w3⟩
theorem camC_deeds (h : DataW.trod enc Tryd.prog W base spare held fuel 34 cs = some x) : ∃ A n c ds, cs = [.slice A n c] ∧ RdDsM maxLen W W.heap.size A n c ds := by
  rcases open_slice Tryd.underlying34 h with ⟨hcs, _⟩ | ⟨a, len, cap, m, n, D, Pl, hcs, hb, hl, hm, hmm, hx, hi⟩
  · exact ⟨none, 0, 0, [], hcs, ⟨rfl, Nat.le_refl _, by unfold maxLen; omega, by unfold maxLen; omega, fun h0 => by omega⟩⟩
  · have hc : Tryd.prog.cellsOf 111 = 4 := by kernel_rfl
    rw [hc] at hi
    have hlm : len ≤ m := by rw [hmm]; split <;> omega
    have hex : ∀ i, ∃ d : DeedD, i < len → ∃ A n c, W.cell? (a.add (i * 4)) = some (.slice A n c) ∧ W.cell? ((a.add (i * 4)).add 1) = some (.int .i64 d.on) ∧ W.cell? ((a.add (i * 4)).add 2) = some (.int .i64 d.off) ∧ W.cell? ((a.add (i * 4)).add 3) = some (.int .i64 d.flip) ∧
        RdI .i64 W W.heap.size A n c d.need ∧ (Lit.int .i64 d.on).wf = true ∧ (Lit.int .i64 d.off).wf = true ∧ (Lit.int .i64 d.flip).wf = true := fun i => by
      by_cases hil : i < len
      · obtain ⟨cs', h1, h2⟩ := hi i (by omega)
        obtain ⟨A, n, c, d, e, hr, w1, w2, w3⟩ := camC_deed h2
        subst e
        obtain ⟨_, _, hat⟩ := World.cells?_some h1
        have q0 := hat 0 (by omega)
        have q1 := hat 1 (by omega)
        have q2 := hat 2 (by omega)
        have q3 := hat 3 (by omega)
        have hz : (a.add (i * 4)).add 0 = a.add (i * 4) := by cases a; simp [Addr.add]
        rw [hz] at q0
        exact ⟨d, fun _ => ⟨A, n, c, q0, q1, q2, q3, hr, w1, w2, w3⟩⟩
      · exact ⟨⟨[], 0, 0, 0⟩, fun h => absurd h hil⟩
    obtain ⟨E, hE⟩ := Classical.axiomOfChoice hex
    clear hex hi
    refine ⟨some a, len, cap, (List.range len).map E, hcs, ⟨by simp, hl, hm, by omega, fun h0 => ?_⟩⟩
    have ha : a.spot = none := by
      obtain ⟨A, n, c, q, -⟩ := hE 0 h0
      cases hs : a.spot with
      | none => rfl
      | some s =>
        simp only [World.cell?, Addr.add, hs] at q
        split at q <;> simp_all
    obtain ⟨b, off, s⟩ := a
    simp only at ha
    subst ha
    have hlt : b < W.heap.size := by
      obtain ⟨A, n, c, q, -⟩ := hE 0 h0
      exact World.block_lt_of_cell? W _ q
    refine ⟨b, off, rfl, hlt, fun i d hd => ?_⟩
    rw [List.getElem?_map] at hd
    obtain ⟨j, hj, e⟩ := Option.map_eq_some_iff.1 hd
    obtain ⟨hj1, hj2⟩ := List.getElem?_eq_some_iff.1 hj
    simp at hj1 hj2
    subst hj2
    subst e
    obtain ⟨A, n, c, q0, q1, q2, q3, hr, w1, w2, w3⟩ := hE i hj1
    simp only [Addr.add_lit] at q0 q1 q2 q3
    exact ⟨A, n, c, q0, q1, q2, q3, hr, by have := hr.cap; have := hr.capMax; omega, w1, w2, w3⟩
theorem camC_task (h : DataW.trod enc Tryd.prog W base spare held fuel 36 cs = some x) : ∃ t : TaskD, ∃ A n c A' n' c', cs = [.int .i64 t.start, .slice A n c, .slice A' n' c'] ∧ RdI .i64 W W.heap.size A n c t.goal ∧ RdDsM maxLen W W.heap.size A' n' c' t.deeds ∧ (Lit.int .i64 t.start).wf = true := by
  obtain ⟨ys, m, _, _, hl, hyl, hf⟩ := DataW.trod_struct Tryd.underlying36 h
  have hc : Tryd.prog.cellsOf 36 = 3 := by kernel_rfl
  rw [hc] at hl
  obtain ⟨c0, c1, c2, rfl⟩ := len3 hl
  obtain ⟨y0, y1, y2, rfl⟩ := len3 hyl
  · have h0 : DataW.trod enc Tryd.prog W base spare held m 3 (([c0, c1, c2].drop 0).take (Tryd.prog.cellsOf 3)) = some y0 := hf 0 _ rfl
    rw [show Tryd.prog.cellsOf 3 = 1 by kernel_rfl] at h0
    have h1 : DataW.trod enc Tryd.prog W base spare held m 23 (([c0, c1, c2].drop 1).take (Tryd.prog.cellsOf 23)) = some y1 := hf 1 _ rfl
    rw [show Tryd.prog.cellsOf 23 = 1 by kernel_rfl] at h1
    have h2 : DataW.trod enc Tryd.prog W base spare held m 34 (([c0, c1, c2].drop 2).take (Tryd.prog.cellsOf 34)) = some y2 := hf 2 _ rfl
    rw [show Tryd.prog.cellsOf 34 = 1 by kernel_rfl] at h2
    simp only [List.drop, List.take, List.getElem?_cons_zero, List.getElem?_cons_succ] at h0 h1 h2
    obtain ⟨s, e0, _, w0⟩ := DataW.trod_int Tryd.underlying3 h0
    obtain ⟨A, n, c, xs, e1, hr⟩ := camC_ints h1
    obtain ⟨A', n', c', ds, e2, hd⟩ := camC_deeds h2
    simp only [List.cons.injEq, and_true] at e0 e1 e2
    subst e0 e1 e2
    exact ⟨⟨s, xs, ds⟩, A, n, c, A', n', c', rfl, hr, hd, w0⟩
set_option maxRecDepth 100000 in
theorem came_Task {v : Value} {d : DataW H} {p : List MemPlace} (hv : Value.okWide Tryd.prog W .any base 36 v) (h : DataW.Trod enc Tryd.prog W 0 (fun _ => true) true 36 v d p) : ∃ t, RdTM maxLen W W.heap.size v t := by
  obtain ⟨cs, rfl, hs⟩ := okWide_struct Tryd.underlying36 hv
  obtain ⟨fuel, hf⟩ := h
  obtain ⟨t, A, n, c, A', n', c', e, h1, h2, h3⟩ := camC_task hf
  have : cs = #[.int .i64 t.start, .slice A n c, .slice A' n' c'] := Array.ext' e
  exact ⟨t, A, n, c, A', n', c', by rw [this], h1, by have := h1.cap; have := h1.capMax; omega, h2, h3⟩
end
end Go.Proofs.YtkimgdfcgfhibaaDoor

/- The laws' helpers, each in the words of St: copies, sizes, equality, marks. -/
namespace Go.Proofs.YtkimgdfcgfhibaaDoor
set_option linter.unusedVariables false
set_option linter.unusedSimpArgs false
open Go.ChangeShapes Go.WideShapes Go.ChangeAt Go.RowKit

/-- it returns a value, and things of its own -/
def Gave (w : World) (v : Value) (L : List HRes) (e : Ending) (w' : World) : Prop := e = .returned v ∧ St w w' L
theorem toTask_st (v : Value) (t : TaskD) (w : World) (h : RdT w w.heap.size v t) : Calls Tryd.prog 15 #[v] w (Gives w id fun v' => [rTask v' t]) :=
  (toTask_any v t w h).mono fun e w' ⟨⟨v', F, he, ho, hn⟩, hb⟩ => ⟨v', he, St.of_task ho hn hb⟩
theorem toIntS_st (A : Option Addr) (n c : Nat) (xs : List Int) (w : World) (h : RdI .i64 w w.heap.size A n c xs) (hn : n ≤ 1048576) : Calls Tryd.prog 16 #[.slice A n c] w (Gives w id fun v' => [rInts v' xs]) :=
  (toIntS_own A n c xs w h (by omega)).mono fun e w' ⟨⟨A', c', F, he, ho⟩, hb⟩ => ⟨_, he, St.of_ints ho hb⟩
theorem eqTask_same (v : Value) (t : TaskD) (v' : Value) (w : World) (h : RdT w w.heap.size v t) (h' : RdT w w.heap.size v' t) :
    Calls Tryd.prog 18 #[v, v'] w fun e w' => e = .returned (.bool true) ∧ Below w.heap.size w w' :=
  (eqTask_any v t v' t w h h').mono fun _ _ ⟨he, hb⟩ => ⟨by rw [he, decide_eq_true rfl], hb⟩
theorem eqIntS_same (A : Option Addr) (n c : Nat) (xs : List Int) (A' : Option Addr) (n' c' : Nat) (w : World) (h : RdI .i64 w w.heap.size A n c xs) (h' : RdI .i64 w w.heap.size A' n' c' xs) :
    Calls Tryd.prog 19 #[.slice A n c, .slice A' n' c'] w fun e w' => e = .returned (.bool true) ∧ Below w.heap.size w w' :=
  (eqIntS_any A n c xs A' n' c' xs w h h').mono fun _ _ ⟨he, q, hb⟩ => ⟨by rw [he, decide_eq_true rfl], by rw [hb]; exact below_drewN (Below.refl _ _) q⟩
section
variable {w W : World} {L : List HRes}
theorem St.formT (S : St w W L) (i : Nat) {v : Value} {t : TaskD} (hi : L[i]? = some (rTask v t)) : ∃ A n c A' n' c', v = .agg #[.int .i64 t.start, .slice A n c, .slice A' n' c'] := by
  obtain ⟨F, ⟨⟨gv, dv, Fg, Fd, cells, Fs, e, h1, h2, h3, -, h4⟩, -⟩, -⟩ := S.get i hi
  obtain ⟨A, c, rfl⟩ := own_form h1.row
  obtain ⟨A', c', rfl⟩ := own_form h3.row
  exact ⟨A, _, c, A', _, c', e⟩
theorem RdTM.form {M B : Nat} {v : Value} {t : TaskD} (h : RdTM M w B v t) : ∃ A n c A' n' c', v = .agg #[.int .i64 t.start, .slice A n c, .slice A' n' c'] := by
  obtain ⟨A, n, c, A', n', c', e, -⟩ := h
  exact ⟨A, n, c, A', n', c', e⟩
end
theorem Sn.rdT {w W : World} {M : Nat → Option HRes} (h : Sn w W M) (k : Nat) {v : Value} {t : TaskD} (hk : M k = some (rTask v t)) : RdT W W.heap.size v t := by
  obtain ⟨F, h1, -⟩ := h.get k hk; exact h1.1.rd
theorem Sn.rdI {w W : World} {M : Nat → Option HRes} (h : Sn w W M) (k : Nat) {v : Value} {xs : List Int} (hk : M k = some (rInts v xs)) : ∃ A c, v = .slice A xs.length c ∧ RdI .i64 W W.heap.size A xs.length c xs := by
  obtain ⟨F, h1, -⟩ := h.get k hk; exact h1.rd
theorem mkDs_le (ds : List DeedD) : mkDs ds ≤ 4 * szDs ds := by
  unfold mkDs szDs
  induction ds with
  | nil => simp
  | cons d ds ih => simp only [List.map_cons, List.sum_cons, List.length_cons, mkD, szD] at ih ⊢; omega
theorem mkT_le (t : TaskD) : mkT t ≤ 4 * szT t := by
  unfold mkT szT; have := mkDs_le t.deeds; omega
end Go.Proofs.YtkimgdfcgfhibaaDoor

/- Deeds done and plans run, by the program and by the reference: each returns the plain function's value. -/
namespace Go.Proofs.YtkimgdfcgfhibaaDoor
set_option linter.unusedVariables false
set_option linter.unusedSimpArgs false
open Go.ChangeShapes Go.WideShapes Go.ChangeAt Go.RowKit

theorem deedDo_yes (d : DeedD) (s : Nat) (h : evalCode d.need s = true) : deedDo d s = some (behind d s) := if_pos h
theorem deedDo_no (d : DeedD) (s : Nat) (h : evalCode d.need s = false) : deedDo d s = none := if_neg (by rw [h]; simp)

theorem behindDeed_any (A : Option Addr) (n c : Nat) (d : DeedD) (s : Nat) (w : World) (h : RdI .i64 w w.heap.size A n c d.need) (hok : deedOk d = true) (hs : s < 32) :
    Calls Tryd.prog 85 #[.agg #[.slice A n c, .int .i64 d.on, .int .i64 d.off, .int .i64 d.flip], .int .i64 s] w fun e w' => e = .returned (.int .i64 (opt (deedDo d s))) ∧ Below w.heap.size w w' := by
  have hp := deedOk_parts d hok
  have S0 := (St.refl w).alloc #[.slice A n c, .int .i64 d.on, .int .i64 d.off, .int .i64 d.flip] 85
  have HR := Lib.hid (runCode_any A n c d.need s _ (h.up S0.below) hp.1 hs)
  have HS0 := Lib.hid S0
  have HB := Lib.hid (behind_impl d s hs hok)
  have hlt := behind_lt d s hok hs
  clear S0 hp
  obtain ⟨bv, hv⟩ : ∃ b, evalCode d.need s = b := ⟨_, rfl⟩
  have HV := Lib.hid hv
  clear hv
  go_enter Tryd.func85, Tryd.ntmps85
  go_wp2_with fail
  refine HR.out.mono ?_
  rw [HV.out]
  rintro e w1 ⟨rfl, hb1⟩
  have S1 := HS0.out.quiet hb1
  have q0 : ∀ j, w1.cell? ⟨w.heap.size, j, none⟩ = _ := S1.cells 0 rfl
  have HS1 := Lib.hid S1
  clear S1 hb1
  cases bv with
  | false =>
    go_wp2
    go_ret
    exact ⟨ret_int (by rw [deedDo_no d s HV.out]; rfl), HS1.out.below⟩
  | true =>
    go_wp2
    rw [HB.out]
    go_ret
    exact ⟨ret_int (by rw [deedDo_yes d s HV.out]; rfl), HS1.out.below⟩
theorem l6Do_any (A : Option Addr) (n c : Nat) (d : DeedD) (s : Nat) (w : World) (h : RdI .i64 w w.heap.size A n c d.need) (hok : deedOk d = true) (hs : s < 32) :
    Calls Tryd.prog 54 #[.agg #[.slice A n c, .int .i64 d.on, .int .i64 d.off, .int .i64 d.flip], .int .i64 s] w fun e w' => e = .returned (.int .i64 (opt (deedDo d s))) ∧ Below w.heap.size w w' := by
  have hp := deedOk_parts d hok
  obtain ⟨hp0, hp1, hp2, hp3, -⟩ := hp
  have S0 := (St.refl w).alloc #[.slice A n c, .int .i64 d.on, .int .i64 d.off, .int .i64 d.flip] 85
  have HR := Lib.hid (l5Run_any A n c d.need s _ (h.up S0.below) hp0 hs)
  have HS0 := Lib.hid S0
  have HB := Lib.hid (behind_spec d s hok)
  have hlt := behind_lt d s hok hs
  obtain ⟨bv, hv⟩ : ∃ b, evalCode d.need s = b := ⟨_, rfl⟩
  have HV := Lib.hid hv
  clear S0 hv
  obtain ⟨need, on, of, fl⟩ := d
  simp only at hp1 hp2 hp3
  obtain ⟨a, rfl⟩ := Int.eq_ofNat_of_zero_le hp1.1
  obtain ⟨o, rfl⟩ := Int.eq_ofNat_of_zero_le hp2.1
  obtain ⟨f, rfl⟩ := Int.eq_ofNat_of_zero_le hp3.1
  obtain ⟨-, hp1⟩ := hp1
  obtain ⟨-, hp2⟩ := hp2
  obtain ⟨-, hp3⟩ := hp3
  have ho : s ||| a < 32 := or_lt32 hs (by omega)
  have hx : s &&& o ≤ s ||| a := Nat.le_trans Nat.and_le_left (Nat.left_le_or)
  have C1 := Lib.hid (fun w => l1Either_any (s : Int) (a : Int) (by omega) (by omega) (by omega) (by omega) w)
  have C2 := Lib.hid (fun w => l1Both_nat s o (by omega) w)
  have C3 := Lib.hid (fun w => l1Other_any (((s ||| a : Nat) : Int) - ((s &&& o : Nat) : Int)) (f : Int) (by omega) (by omega) (by omega) (by omega) w)
  simp only [Int.toNat_natCast] at C1 C3 HB
  have HX : Hid ((((s ||| a : Nat) : Int) - ((s &&& o : Nat) : Int)).toNat ^^^ f = behind ⟨need, a, o, f⟩ s) := Lib.hid (by rw [HB.out]; congr 1; omega)
  clear HB hok
  go_enter Tryd.func54, Tryd.ntmps54
  go_wp2_with fail
  refine HR.out.mono ?_
  rw [HV.out]
  rintro e w1 ⟨rfl, hb1⟩
  have S1 := HS0.out.quiet hb1
  have q0 : ∀ j, w1.cell? ⟨w.heap.size, j, none⟩ = _ := S1.cells 0 rfl
  have HS1 := Lib.hid S1
  clear S1 hb1
  cases bv with
  | false =>
    go_wp2
    go_ret
    exact ⟨ret_int (by rw [deedDo_no _ s HV.out]; rfl), HS1.out.below⟩
  | true =>
    go_upto_region 3 with (fail)
    go_quiet ((first
      | (go_at_call 87; with_reducible exact quiet_left (C1.out _))
      | (go_at_call 65; with_reducible exact quiet_left (C2.out _))
      | (go_at_call 86; with_reducible exact quiet_left (C3.out _))))
    go_wp2
    go_ret
    exact ⟨ret_int (by rw [deedDo_yes _ s HV.out, ← HX.out]; rfl), HS1.out.below.trans (below_drewN (Below.refl _ _) _)⟩
end Go.Proofs.YtkimgdfcgfhibaaDoor
