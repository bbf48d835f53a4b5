/- Joined texts: Acts, EndActs, Draw. -/
import Derived.Test.YtfgebdioffeliaaSStatesBack
import Derived.Test.YtfgebdioffeliaaSNum
/- Rows of acts: in memory, compared, marked. -/
namespace Go.Proofs.Ytfgebdioffeliaa
set_option linter.unusedVariables false
set_option linter.unusedSimpArgs false
open Go.ChangeShapes Go.WideShapes Go.ChangeAt Go.RowKit

def flatA (aa : List ActD) : List Int := aa.flatMap fun a => [a.kind, a.number]
theorem flatA_cons (a : ActD) (aa : List ActD) : flatA (a :: aa) = a.kind :: a.number :: flatA aa := rfl
theorem flatA_at (aa : List ActD) (i : Nat) (a : ActD) (h : aa[i]? = some a) : (flatA aa)[i * 2]? = some a.kind ∧ (flatA aa)[i * 2 + 1]? = some a.number := by
  induction aa generalizing i with
  | nil => simp at h
  | cons x aa ih =>
    rw [flatA_cons]
    cases i with
    | zero => simp at h; subst h; exact ⟨rfl, rfl⟩
    | succ i =>
      simp only [List.getElem?_cons_succ] at h
      obtain ⟨h1, h2⟩ := ih i h
      rw [show (i + 1) * 2 = i * 2 + 1 + 1 by omega]
      simp only [List.getElem?_cons_succ]
      exact ⟨h1, h2⟩
/-- a row of acts that is read -/
def RdA (w : World) (B : Nat) (A : Option Addr) (n c : Nat) (aa : List ActD) : Prop := aa.length = n ∧ RdRow w B 2 A n c (ints (flatA aa))
theorem RdA.get {w : World} {B n c i : Nat} {A : Option Addr} {aa : List ActD} (h : RdA w B A n c aa) (hi : i < n) : ∃ b off a, A = some ⟨b, off, none⟩ ∧ b < B ∧ aa[i]? = some a ∧ w.cell? ⟨b, off + i * 2, none⟩ = some (.int .i64 a.kind) ∧ w.cell? ⟨b, off + i * 2 + 1, none⟩ = some (.int .i64 a.number) := by
  obtain ⟨b, off, e, hb, hc⟩ := h.2.at_ (by omega)
  have hl := h.1
  have ha : aa[i]? = some (aa[i]'(by omega)) := List.getElem?_eq_getElem _
  obtain ⟨h1, h2⟩ := flatA_at aa i _ ha
  refine ⟨b, off, _, e, hb, ha, hc (i * 2) _ ?_, ?_⟩
  · unfold ints; rw [List.getElem?_map, h1]; rfl
  · rw [Nat.add_assoc]
    refine hc (i * 2 + 1) _ ?_
    unfold ints; rw [List.getElem?_map, h2]; rfl
theorem RdA.up {w w' : World} {A : Option Addr} {n c : Nat} {aa : List ActD} (h : RdA w w.heap.size A n c aa) (hb : Below w.heap.size w w') : RdA w' w'.heap.size A n c aa := ⟨h.1, h.2.up hb⟩
def markAS (k n : Nat) : List ActD := (List.range n).map fun i => ⟨((k + 2 * i : Nat) : Int), ((k + 2 * i + 1 : Nat) : Int)⟩
/-- the first i marked -/
def mixA (k : Nat) (aa : List ActD) (i : Nat) : List ActD := markAS k i ++ aa.drop i
end Go.Proofs.Ytfgebdioffeliaa

/- EndActs, of the program and of the reference. Printed by gen_endacts.py. -/
namespace Go.Proofs.Ytfgebdioffeliaa
set_option linter.unusedVariables false
set_option linter.unusedSimpArgs false
open Go.ChangeShapes Go.WideShapes Go.ChangeAt Go.RowKit

def backs (b : BookD) : Bool := decide (0 < b.done.length) && ((restFor b).isNone || decide (40 < b.done.length + ((restFor b).getD []).length))
def endOf (b : BookD) : Int := if backs b then b.order.start else b.state
def endActs (b : BookD) : List ActD :=
  if bookOk b && (planFor b.order).isSome then (if backs b then [⟨1, b.done.length⟩] else []) ++ (if evalCode b.order.goal (endOf b).toNat then [] else [⟨3, 0⟩]) else []
theorem bookOk_parts {b : BookD} (h : bookOk b = true) : taskOk b.order = true ∧ b.done.length ≤ 40 ∧ (0 ≤ b.state ∧ b.state < 32) ∧ planRun b.order b.order.start b.done = b.state := by
  unfold bookOk at h
  simp only [Bool.and_eq_true, decide_eq_true_eq, beq_iff_eq] at h
  exact ⟨h.1.1.1, h.1.1.2, (stIn_iff _).1 h.1.2, h.2⟩
end Go.Proofs.Ytfgebdioffeliaa

/- The reader of drawn codes: l20Open, pick, odd. The reader's position stands below 2^40. -/
namespace Go.Proofs.Ytfgebdioffeliaa
open Go.ChangeShapes Go.WideShapes Go.ChangeAt Go.RowKit

/-- block g is a reader at position p, over bytes that lie below block base -/
def Rdr (w : World) (base g p : Nat) : Prop := base ≤ g ∧ p < 1099511627776 ∧ ∃ A n c xs, n ≤ 2000 ∧ RdI .u8 w base A n c xs ∧ Blk w g 72 #[.slice A n c, .int .i64 p]

theorem rdI_prefix {k : IntKind} {w : World} {B : Nat} {A : Option Addr} {n c : Nat} {xs : List Int} (h : RdI k w B A n c xs) (m : Nat) (hm : m ≤ n) : RdI k w B A m c (xs.take m) :=
  ⟨by rw [List.length_take, h.len]; omega, by have := h.cap; omega, h.capMax, fun x hx => h.wf x (List.mem_of_mem_take hx), fun hp => by
    obtain ⟨b, off, e, hb, hc⟩ := h.at_ (by omega)
    refine ⟨b, off, e, hb, fun i x hx => hc i x ?_⟩
    rw [List.getElem?_take] at hx
    split at hx
    · exact hx
    · cases hx⟩

theorem rdr_next {w : World} {base g p n c : Nat} {A : Option Addr} {xs : List Int} (hg : base ≤ g) (hp : p + 1 < 1099511627776) (hn : n ≤ 2000) (hr : RdI .u8 w base A n c xs)
    (hk : Blk w g 72 #[.slice A n c, .int .i64 p]) (q : Nat) :
    w.grownBy ((w.setCell ⟨g, 1, none⟩ (.int .i64 (p + 1 : Nat))).drewN q) (some g) ∧ Rdr ((w.setCell ⟨g, 1, none⟩ (.int .i64 (p + 1 : Nat))).drewN q) base g (p + 1) :=
  ⟨grown_drewN (only_set _ _ _ _) _, hg, hp, A, n, c, xs, hn, (hr.keep (w' := (w.setCell ⟨g, 1, none⟩ (.int .i64 (p + 1 : Nat))).drewN q) fun b o hb => by
      show (w.setCell _ _).cell? _ = _
      exact World.cell?_setCell_other _ _ _ _ (fun e => by cases e; omega)), (hk.set_ 1 _).drewN q⟩

/-- what pick returns -/
def InPick (n x : Int) : Prop := 0 ≤ x ∧ (1 ≤ n → x < n) ∧ (n < 1 → x = 0)

theorem pick_val (X m : Int) (h0 : 0 ≤ X) (h1 : X < 4611686018427387904) (hm : 1 ≤ m) : InPick m ((bits BinOp.xor IntKind.i64 X (X / 64)).tmod m) := by
  obtain ⟨t, rfl⟩ := Int.eq_ofNat_of_zero_le h0
  have e : ((t : Int) / 64) = ((t / 64 : Nat) : Int) := by omega
  rw [e, i64_xor_nat _ _ (by omega) (by omega), Int.tmod_eq_emod_of_nonneg (by omega)]
  exact ⟨Int.emod_nonneg _ (by omega), fun _ => Int.emod_lt_of_pos _ (by omega), by omega⟩
set_option maxRecDepth 100000 in
theorem pick_any (g base p : Nat) (m : Int) (w : World) (h : Rdr w base g p) (hp : p + 1 < 1099511627776) :
    Calls Try.prog 46 #[.pointer (some ⟨g, 0, none⟩), .int .i64 m] w fun e w' => (∃ x, e = .returned (.int .i64 x) ∧ InPick m x) ∧ w.grownBy w' (some g) ∧ Rdr w' base g (p + 1) := by
  obtain ⟨hg, _, A, n, c, xs, hn, hr, hk⟩ := h
  have HN := Lib.hid fun q => rdr_next hg hp hn hr hk q
  have c0 : w.cell? ⟨g, 0, none⟩ = some (.slice A n c) := hk.cell 0
  have c1 : w.cell? ⟨g, 1, none⟩ = some (.int .i64 p) := hk.cell 1
  have f1 : w.frozen? ⟨g, 1, none⟩ = false := hk.frozen 1
  by_cases hm : m < 1
  · go_enter Try.func46, Try.ntmps46
    go_wp2
    go_ret
    exact ⟨⟨0, rfl, by omega, by omega, fun _ => rfl⟩, HN.out 0⟩
  by_cases hz : n = 0
  · subst hz
    go_enter Try.func46, Try.ntmps46
    go_wp2
    go_ret
    exact ⟨⟨0, rfl, by omega, by omega, fun _ => rfl⟩, HN.out 0⟩
  have hz' : ((n : Int) == 0) = false := by simpa using hz
  by_cases hlt : p < n
  · obtain ⟨b, off, x, rfl, hb, hx, hw, hc⟩ := hr.get hlt
    have hne : b ≠ g := by omega
    have hx2 := wf_u8 hw
    obtain ⟨x0, x1⟩ := hx2
    have hc' : ∀ v, (w.setCell ⟨g, 1, none⟩ v).cell? ⟨b, off + p, none⟩ = some (.int .u8 x) := fun v => by
      rw [World.cell?_setCell_other _ _ _ _ (fun e => hne (congrArg Addr.block e).symm)]; exact hc
    clear hx hw
    go_enter Try.func46, Try.ntmps46
    go_wp2
    go_ret
    exact ⟨⟨x % m, rfl, Int.emod_nonneg _ (by omega), fun _ => Int.emod_lt_of_pos _ (by omega), by omega⟩, HN.out 0⟩
  · obtain ⟨i1, hi1⟩ : ∃ i1 : Nat, i1 = p % n := ⟨_, rfl⟩
    obtain ⟨i2, hi2⟩ : ∃ i2 : Nat, i2 = (p * 7 + 3) % n := ⟨_, rfl⟩
    obtain ⟨q, hq⟩ : ∃ q : Nat, q = p / n := ⟨_, rfl⟩
    have hm1 : i1 < n := by rw [hi1]; exact Nat.mod_lt _ (by omega)
    have hm2 : i2 < n := by rw [hi2]; exact Nat.mod_lt _ (by omega)
    have hqp : q ≤ p := by rw [hq]; exact Nat.div_le_self _ _
    have t1 : ((p : Int).tmod (n : Int)) = (i1 : Int) := by rw [hi1, Int.tmod_eq_emod_of_nonneg (by omega)]; simp
    have t2 : (((p : Int) * 7 + 3).tmod (n : Int)) = (i2 : Int) := by rw [hi2, Int.tmod_eq_emod_of_nonneg (by omega)]; simp
    have t3 : ((p : Int).tdiv (n : Int)) = (q : Int) := by rw [hq, Int.tdiv_eq_ediv_of_nonneg (by omega)]; simp
    clear hi1 hi2 hq
    obtain ⟨b, off, x, rfl, hb, hx, hw, hc⟩ := hr.get hm1
    obtain ⟨b', off', y, e, hb', hy, hwy, hcy⟩ := hr.get hm2
    simp only [Option.some.injEq, Addr.mk.injEq] at e
    obtain ⟨rfl, rfl, -⟩ := e
    have hne : b ≠ g := by omega
    obtain ⟨x0, x1⟩ := wf_u8 hw
    obtain ⟨y0, y1⟩ := wf_u8 hwy
    have hc' : ∀ v, (w.setCell ⟨g, 1, none⟩ v).cell? ⟨b, off + i1, none⟩ = some (.int .u8 x) := fun v => by
      rw [World.cell?_setCell_other _ _ _ _ (fun e => hne (congrArg Addr.block e).symm)]; exact hc
    have hcy' : ∀ v, (w.setCell ⟨g, 1, none⟩ v).cell? ⟨b, off + i2, none⟩ = some (.int .u8 y) := fun v => by
      rw [World.cell?_setCell_other _ _ _ _ (fun e => hne (congrArg Addr.block e).symm)]; exact hcy
    have X0 : IntKind.i64.wrap x = x := IntWalk.i64_in _ (by omega)
    have Y0 : IntKind.i64.wrap y = y := IntWalk.i64_in _ (by omega)
    have W1 : IntKind.i64.wrap (x * 131) = x * 131 := IntWalk.i64_in _ (by omega)
    have W2 : IntKind.i64.wrap ((p : Int) * 7) = (p : Int) * 7 := IntWalk.i64_in _ (by omega)
    have W3 : IntKind.i64.wrap ((p : Int) * 7 + 3) = (p : Int) * 7 + 3 := IntWalk.i64_in _ (by omega)
    have W4 : IntKind.i64.wrap (y * 1117) = y * 1117 := IntWalk.i64_in _ (by omega)
    have W5 : IntKind.i64.wrap (x * 131 + y * 1117) = x * 131 + y * 1117 := IntWalk.i64_in _ (by omega)
    have W6 : IntKind.i64.wrap ((p : Int) * 29) = (p : Int) * 29 := IntWalk.i64_in _ (by omega)
    have W7 : IntKind.i64.wrap (x * 131 + y * 1117 + (p : Int) * 29) = x * 131 + y * 1117 + (p : Int) * 29 := IntWalk.i64_in _ (by omega)
    have Q0 : IntKind.i64.wrap (q : Int) = (q : Int) := IntWalk.i64_in _ (by omega)
    have W8 : IntKind.i64.wrap ((q : Int) * 53) = (q : Int) * 53 := IntWalk.i64_in _ (by omega)
    have W9 : IntKind.i64.wrap (x * 131 + y * 1117 + (p : Int) * 29 + (q : Int) * 53) = x * 131 + y * 1117 + (p : Int) * 29 + (q : Int) * 53 := IntWalk.i64_in _ (by omega)
    clear hx hw hy hwy hc hcy
    go_enter Try.func46, Try.ntmps46
    go_wp2
    go_quiet (fail)
    clear X0 Y0 W1 W2 W3 W4 W5 W6 W7 Q0 W8 W9
    go_wp2
    go_ret
    exact ⟨⟨_, rfl, pick_val _ _ (by omega) (by omega) hm⟩, HN.out nq⟩

def SomeBool (e : Ending) : Prop := ∃ b : Bool, e = .returned (.bool b)
theorem odd_any (g base p : Nat) (m : Int) (w : World) (h : Rdr w base g p) (hp : p + 1 < 1099511627776) :
    Calls Try.prog 58 #[.pointer (some ⟨g, 0, none⟩), .int .i64 m] w fun e w' => SomeBool e ∧ w.grownBy w' (some g) ∧ ∃ p', p' ≤ p + 1 ∧ Rdr w' base g p' := by
  by_cases hm : 0 < m
  · go_enter Try.func58, Try.ntmps58
    go_wp2_with (go_at_call 46; refine (pick_any g base p m _ h hp).mono ?_; rintro e w' ⟨⟨x, rfl, hx⟩, hw, hr⟩; have HX := Lib.hid hx; clear hx)
    go_ret
    exact ⟨⟨_, rfl⟩, hw, p + 1, Nat.le_refl _, hr⟩
  · go_enter Try.func58, Try.ntmps58
    go_wp2
    go_ret
    exact ⟨⟨_, rfl⟩, World.grownBy.refl _ _, p, by omega, h⟩

end Go.Proofs.Ytfgebdioffeliaa
