/- The reader of drawn codes: l20Open, pick, odd. The reader's position stands below 2^40. -/
import Derived.Test.YtkimgdfcgfhibaaDoorSNum
namespace Go.Proofs.YtkimgdfcgfhibaaDoor
open Go.ChangeShapes Go.WideShapes Go.ChangeAt Go.RowKit

/-- block g is a reader at position p, over bytes that lie below block base -/
def Rdr (w : World) (base g p : Nat) : Prop := base ≤ g ∧ p < 1099511627776 ∧ ∃ A n c xs, n ≤ 2000 ∧ RdI .u8 w base A n c xs ∧ Blk w g 90 #[.slice A n c, .int .i64 p]

theorem rdI_prefix {k : IntKind} {w : World} {B : Nat} {A : Option Addr} {n c : Nat} {xs : List Int} (h : RdI k w B A n c xs) (m : Nat) (hm : m ≤ n) : RdI k w B A m c (xs.take m) :=
  ⟨by rw [List.length_take, h.len]; omega, by have := h.cap; omega, h.capMax, fun x hx => h.wf x (List.mem_of_mem_take hx), fun hp => by
    obtain ⟨b, off, e, hb, hc⟩ := h.at_ (by omega)
    refine ⟨b, off, e, hb, fun i x hx => hc i x ?_⟩
    rw [List.getElem?_take] at hx
    split at hx
    · exact hx
    · cases hx⟩

theorem rdr_next {w : World} {base g p n c : Nat} {A : Option Addr} {xs : List Int} (hg : base ≤ g) (hp : p + 1 < 1099511627776) (hn : n ≤ 2000) (hr : RdI .u8 w base A n c xs)
    (hk : Blk w g 90 #[.slice A n c, .int .i64 p]) (q : Nat) :
    w.grownBy ((w.setCell ⟨g, 1, none⟩ (.int .i64 (p + 1 : Nat))).drewN q) (some g) ∧ Rdr ((w.setCell ⟨g, 1, none⟩ (.int .i64 (p + 1 : Nat))).drewN q) base g (p + 1) :=
  ⟨grown_drewN (only_set _ _ _ _) _, hg, hp, A, n, c, xs, hn, (hr.keep (w' := (w.setCell ⟨g, 1, none⟩ (.int .i64 (p + 1 : Nat))).drewN q) fun b o hb => by
      show (w.setCell _ _).cell? _ = _
      exact World.cell?_setCell_other _ _ _ _ (fun e => by cases e; omega)), (hk.set_ 1 _).drewN q⟩

/-- what pick returns -/
def InPick (n x : Int) : Prop := 0 ≤ x ∧ (1 ≤ n → x < n) ∧ (n < 1 → x = 0)

theorem pick_val (X m : Int) (h0 : 0 ≤ X) (h1 : X < 4611686018427387904) (hm : 1 ≤ m) : InPick m ((bits BinOp.xor IntKind.i64 X (X / 64)).tmod m) := by
  obtain ⟨t, rfl⟩ := Int.eq_ofNat_of_zero_le h0
  have e : ((t : Int) / 64) = ((t / 64 : Nat) : Int) := by omega
  rw [e, i64_xor_nat _ _ (by omega) (by omega), Int.tmod_eq_emod_of_nonneg (by omega)]
  exact ⟨Int.emod_nonneg _ (by omega), fun _ => Int.emod_lt_of_pos _ (by omega), by omega⟩
set_option maxRecDepth 100000 in
theorem pick_any (g base p : Nat) (m : Int) (w : World) (h : Rdr w base g p) (hp : p + 1 < 1099511627776) :
    Calls Tryd.prog 59 #[.pointer (some ⟨g, 0, none⟩), .int .i64 m] w fun e w' => (∃ x, e = .returned (.int .i64 x) ∧ InPick m x) ∧ w.grownBy w' (some g) ∧ Rdr w' base g (p + 1) := by
  obtain ⟨hg, _, A, n, c, xs, hn, hr, hk⟩ := h
  have HN := Lib.hid fun q => rdr_next hg hp hn hr hk q
  have c0 : w.cell? ⟨g, 0, none⟩ = some (.slice A n c) := hk.cell 0
  have c1 : w.cell? ⟨g, 1, none⟩ = some (.int .i64 p) := hk.cell 1
  have f1 : w.frozen? ⟨g, 1, none⟩ = false := hk.frozen 1
  by_cases hm : m < 1
  · go_enter Tryd.func59, Tryd.ntmps59
    go_wp2
    go_ret
    exact ⟨⟨0, rfl, by omega, by omega, fun _ => rfl⟩, HN.out 0⟩
  by_cases hz : n = 0
  · subst hz
    go_enter Tryd.func59, Tryd.ntmps59
    go_wp2
    go_ret
    exact ⟨⟨0, rfl, by omega, by omega, fun _ => rfl⟩, HN.out 0⟩
  have hz' : ((n : Int) == 0) = false := by simpa using hz
  by_cases hlt : p < n
  · obtain ⟨b, off, x, rfl, hb, hx, hw, hc⟩ := hr.get hlt
    have hne : b ≠ g := by omega
    have hx2 := wf_u8 hw
    obtain ⟨x0, x1⟩ := hx2
    have hc' : ∀ v, (w.setCell ⟨g, 1, none⟩ v).cell? ⟨b, off + p, none⟩ = some (.int .u8 x) := fun v => by
      rw [World.cell?_setCell_other _ _ _ _ (fun e => hne (congrArg Addr.block e).symm)]; exact hc
    clear hx hw
    go_enter Tryd.func59, Tryd.ntmps59
    go_wp2
    go_ret
    exact ⟨⟨x % m, rfl, Int.emod_nonneg _ (by omega), fun _ => Int.emod_lt_of_pos _ (by omega), by omega⟩, HN.out 0⟩
  · obtain ⟨i1, hi1⟩ : ∃ i1 : Nat, i1 = p % n := ⟨_, rfl⟩
    obtain ⟨i2, hi2⟩ : ∃ i2 : Nat, i2 = (p * 7 + 3) % n := ⟨_, rfl⟩
    obtain ⟨q, hq⟩ : ∃ q : Nat, q = p / n := ⟨_, rfl⟩
    have hm1 : i1 < n := by rw [hi1]; exact Nat.mod_lt _ (by omega)
    have hm2 : i2 < n := by rw [hi2]; exact Nat.mod_lt _ (by omega)
    have hqp : q ≤ p := by rw [hq]; exact Nat.div_le_self _ _
    have t1 : ((p : Int).tmod (n : Int)) = (i1 : Int) := by rw [hi1, Int.tmod_eq_emod_of_nonneg (by omega)]; simp
    have t2 : (((p : Int) * 7 + 3).tmod (n : Int)) = (i2 : Int) := by rw [hi2, Int.tmod_eq_emod_of_nonneg (by omega)]; simp
    have t3 : ((p : Int).tdiv (n : Int)) = (q : Int) := by rw [hq, Int.tdiv_eq_ediv_of_nonneg (by omega)]; simp
    clear hi1 hi2 hq
    obtain ⟨b, off, x, rfl, hb, hx, hw, hc⟩ := hr.get hm1
    obtain ⟨b', off', y, e, hb', hy, hwy, hcy⟩ := hr.get hm2
    simp only [Option.some.injEq, Addr.mk.injEq] at e
    obtain ⟨rfl, rfl, -⟩ := e
    have hne : b ≠ g := by omega
    obtain ⟨x0, x1⟩ := wf_u8 hw
    obtain ⟨y0, y1⟩ := wf_u8 hwy
    have hc' : ∀ v, (w.setCell ⟨g, 1, none⟩ v).cell? ⟨b, off + i1, none⟩ = some (.int .u8 x) := fun v => by
      rw [World.cell?_setCell_other _ _ _ _ (fun e => hne (congrArg Addr.block e).symm)]; exact hc
    have hcy' : ∀ v, (w.setCell ⟨g, 1, none⟩ v).cell? ⟨b, off + i2, none⟩ = some (.int .u8 y) := fun v => by
      rw [World.cell?_setCell_other _ _ _ _ (fun e => hne (congrArg Addr.block e).symm)]; exact hcy
    have X0 : IntKind.i64.wrap x = x := IntWalk.i64_in _ (by omega)
    have Y0 : IntKind.i64.wrap y = y := IntWalk.i64_in _ (by omega)
    have W1 : IntKind.i64.wrap (x * 131) = x * 131 := IntWalk.i64_in _ (by omega)
    have W2 : IntKind.i64.wrap ((p : Int) * 7) = (p : Int) * 7 := IntWalk.i64_in _ (by omega)
    have W3 : IntKind.i64.wrap ((p : Int) * 7 + 3) = (p : Int) * 7 + 3 := IntWalk.i64_in _ (by omega)
    have W4 : IntKind.i64.wrap (y * 1117) = y * 1117 := IntWalk.i64_in _ (by omega)
    have W5 : IntKind.i64.wrap (x * 131 + y * 1117) = x * 131 + y * 1117 := IntWalk.i64_in _ (by omega)
    have W6 : IntKind.i64.wrap ((p : Int) * 29) = (p : Int) * 29 := IntWalk.i64_in _ (by omega)
    have W7 : IntKind.i64.wrap (x * 131 + y * 1117 + (p : Int) * 29) = x * 131 + y * 1117 + (p : Int) * 29 := IntWalk.i64_in _ (by omega)
    have Q0 : IntKind.i64.wrap (q : Int) = (q : Int) := IntWalk.i64_in _ (by omega)
    have W8 : IntKind.i64.wrap ((q : Int) * 53) = (q : Int) * 53 := IntWalk.i64_in _ (by omega)
    have W9 : IntKind.i64.wrap (x * 131 + y * 1117 + (p : Int) * 29 + (q : Int) * 53) = x * 131 + y * 1117 + (p : Int) * 29 + (q : Int) * 53 := IntWalk.i64_in _ (by omega)
    clear hx hw hy hwy hc hcy
    go_enter Tryd.func59, Tryd.ntmps59
    go_wp2
    go_quiet (fail)
    clear X0 Y0 W1 W2 W3 W4 W5 W6 W7 Q0 W8 W9
    go_wp2
    go_ret
    exact ⟨⟨_, rfl, pick_val _ _ (by omega) (by omega) hm⟩, HN.out nq⟩

def SomeBool (e : Ending) : Prop := ∃ b : Bool, e = .returned (.bool b)
theorem odd_any (g base p : Nat) (m : Int) (w : World) (h : Rdr w base g p) (hp : p + 1 < 1099511627776) :
    Calls Tryd.prog 84 #[.pointer (some ⟨g, 0, none⟩), .int .i64 m] w fun e w' => SomeBool e ∧ w.grownBy w' (some g) ∧ ∃ p', p' ≤ p + 1 ∧ Rdr w' base g p' := by
  by_cases hm : 0 < m
  · go_enter Tryd.func84, Tryd.ntmps84
    go_wp2_with (go_at_call 59; refine (pick_any g base p m _ h hp).mono ?_; rintro e w' ⟨⟨x, rfl, hx⟩, hw, hr⟩; have HX := Lib.hid hx; clear hx)
    go_ret
    exact ⟨⟨_, rfl⟩, hw, p + 1, Nat.le_refl _, hr⟩
  · go_enter Tryd.func84, Tryd.ntmps84
    go_wp2
    go_ret
    exact ⟨⟨_, rfl⟩, World.grownBy.refl _ _, p, by omega, h⟩

end Go.Proofs.YtkimgdfcgfhibaaDoor
