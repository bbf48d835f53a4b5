/- Joined texts: More, Draw. -/
import Derived.Test.YtdbgoekemffimaaJFnOnWayPush
import Derived.Test.YtdbgoekemffimaaJFnOnWay2

/- Rows of numbers that grow: append to a thing of the list. -/
namespace Go.Proofs.Ytdbgoekemffimaa
set_option linter.unusedVariables false
open Go.ChangeShapes Go.WideShapes Go.ChangeAt Go.RowKit
/-- a fact that no tactic looks into (contradiction looks into Hid) -/
structure Bx (p : Prop) : Prop where
  out : p
theorem St.appI {w W W' : World} {L : List HRes} (h : St w W L) (i : Nat) {v v' : Value} {xs ys : List Int} {n : Nat} (hi : L[i]? = some (rInts v xs)) (hn : n = xs.length + ys.length) (hown : W'.ownsRow 0 3 1 v' n (Go.Proofs.Ytdbgoekemffimaa.ints xs ++ Go.Proofs.Ytdbgoekemffimaa.ints ys)) (hwf : ∀ y ∈ ys, (Lit.int .i64 y).wf = true)
    (hg : W.grownBy W' v.ownBlock) (hat : v'.ownBlock = v.ownBlock ∨ v'.ownBlock = some W.heap.size) : St w W' (L.set i (rInts v' (xs ++ ys))) :=
  h.mod i hi fun F h1 _ => ⟨v'.ownBlock.toList, ⟨by subst hn; rw [List.length_append, ints_append]; exact hown, fun x hx => (List.mem_append.1 hx).elim (h1.wf x) (hwf x), rfl⟩, fun b hb => by
    rcases hat with e | e
    · left; rw [h1.foot, ← e]; exact hb
    · right; rw [e] at hb; simp at hb; omega, by rw [h1.foot]; exact Only.of_grown hg⟩
theorem St.ownI {w W : World} {L : List HRes} (h : St w W L) (i : Nat) {v : Value} {xs : List Int} (hi : L[i]? = some (rInts v xs)) : W.ownsRow 0 3 1 v xs.length (Go.Proofs.Ytdbgoekemffimaa.ints xs) := by
  obtain ⟨F, h1⟩ := h.ints i hi
  exact own_mono h1.row (Nat.zero_le _)
theorem drop2_st {w W : World} {R : HRes} {L : List HRes} {M : Nat → Option HRes} (h : Sn w W M) (h0 : M 0 = some R) (h2 : ∀ i, M (i + 2) = L[i]?) : St w W (R :: L) :=
  h.to_st (0 :: List.range' 2 L.length) (by
    rw [List.nodup_cons]
    exact ⟨fun hm => by have := List.mem_range'_1.1 hm; omega, List.nodup_range'⟩) (by
    simp only [List.map_cons, h0, List.cons.injEq, true_and]
    refine List.ext_getElem (by simp) fun i h1 h3 => ?_
    simp only [List.length_map, List.length_range'] at h1
    simp only [List.getElem_map, List.getElem_range', Nat.one_mul]
    rw [Nat.add_comm, h2 i, List.getElem?_eq_getElem h1])
theorem St.pushD {w W W' : World} {L : List HRes} {v v' nv : Value} {ds : List DeedD} {d : DeedD} {n : Nat} (h : St w W (rDeeds v ds :: rInts nv d.need :: L))
    (hs : d.need.length ≤ 1048576) (hwf : (Lit.int .i64 d.on).wf = true ∧ (Lit.int .i64 d.off).wf = true ∧ (Lit.int .i64 d.flip).wf = true) (hsm : ds.length + 1 ≤ 1048576) (hn : n = ds.length + 1)
    {cells : List Value} (hrow : W.ownsRow 0 44 4 v ds.length cells) (hown : W'.ownsRow 0 44 4 v' n (cells ++ [nv, .int .i64 d.on, .int .i64 d.off, .int .i64 d.flip])) (hg : W.grownBy W' v.ownBlock) (hat : v'.ownBlock = v.ownBlock ∨ v'.ownBlock = some W.heap.size) : St w W' (rDeeds v' (ds ++ [d]) :: L) :=
  drop2_st ((Sn.of_st h).push 0 1 (by decide) rfl rfl hs hwf hsm hn hrow hown hg hat) rfl fun i => rfl
theorem St.rowD {w W : World} {L : List HRes} (h : St w W L) (i : Nat) {v : Value} {ds : List DeedD} (hi : L[i]? = some (rDeeds v ds)) : ∃ cells, W.ownsRow 0 44 4 v ds.length cells := by
  obtain ⟨F, h1, -⟩ := h.get i hi; exact OwnDs.ownRow h1
end Go.Proofs.Ytdbgoekemffimaa

/- The reader of drawn codes: l20Open, pick, odd. The reader's position stands below 2^40. -/
namespace Go.Proofs.Ytdbgoekemffimaa
open Go.ChangeShapes Go.WideShapes Go.ChangeAt Go.RowKit

/-- block g is a reader at position p, over bytes that lie below block base -/
def Rdr (w : World) (base g p : Nat) : Prop := base ≤ g ∧ p < 1099511627776 ∧ ∃ A n c xs, n ≤ 2000 ∧ RdI .u8 w base A n c xs ∧ Blk w g 97 #[.slice A n c, .int .i64 p]

theorem wfByteArr : True := trivial
theorem rdI_prefix {k : IntKind} {w : World} {B : Nat} {A : Option Addr} {n c : Nat} {xs : List Int} (h : RdI k w B A n c xs) (m : Nat) (hm : m ≤ n) : RdI k w B A m c (xs.take m) :=
  ⟨by rw [List.length_take, h.len]; omega, by have := h.cap; omega, h.capMax, fun x hx => h.wf x (List.mem_of_mem_take hx), fun hp => by
    obtain ⟨b, off, e, hb, hc⟩ := h.at_ (by omega)
    refine ⟨b, off, e, hb, fun i x hx => hc i x ?_⟩
    rw [List.getElem?_take] at hx
    split at hx
    · exact hx
    · cases hx⟩

theorem l20Open_any (A : Option Addr) (n c : Nat) (xs : List Int) (w : World) (h : RdI .u8 w w.heap.size A n c xs) :
    Calls Try.prog 49 #[.slice A n c] w fun e w' => e = .returned (.pointer (some ⟨w.heap.size, 0, none⟩)) ∧ Below w.heap.size w w' ∧ Rdr w' w.heap.size w.heap.size 0 ∧ w'.heap.size = w.heap.size + 1 := by
  have hn := h.cap
  have hm := h.capMax
  unfold maxLen at hm
  by_cases hb : 2000 < n
  · go_enter Try.func49, Try.ntmps49
    go_wp2
    go_ret
    have hbel : Below w.heap.size w (w.alloc (Obj.cells #[Value.slice A 2000 c, Value.int IntKind.i64 0] 97)) := (Below.refl _ _).alloc (Nat.le_refl _) _
    exact ⟨rfl, hbel, ⟨Nat.le_refl _, by omega, A, 2000, c, xs.take 2000, by omega, (rdI_prefix h 2000 (by omega)).below hbel, Blk.new _ _ _⟩, by simp⟩
  · go_enter Try.func49, Try.ntmps49
    go_wp2
    go_ret
    have hbel : Below w.heap.size w (w.alloc (Obj.cells #[Value.slice A n c, Value.int IntKind.i64 0] 97)) := (Below.refl _ _).alloc (Nat.le_refl _) _
    exact ⟨rfl, hbel, ⟨Nat.le_refl _, by omega, A, n, c, xs, by omega, h.below hbel, Blk.new _ _ _⟩, by simp⟩

theorem rdr_next {w : World} {base g p n c : Nat} {A : Option Addr} {xs : List Int} (hg : base ≤ g) (hp : p + 1 < 1099511627776) (hn : n ≤ 2000) (hr : RdI .u8 w base A n c xs)
    (hk : Blk w g 97 #[.slice A n c, .int .i64 p]) (q : Nat) :
    w.grownBy ((w.setCell ⟨g, 1, none⟩ (.int .i64 (p + 1 : Nat))).drewN q) (some g) ∧ Rdr ((w.setCell ⟨g, 1, none⟩ (.int .i64 (p + 1 : Nat))).drewN q) base g (p + 1) :=
  ⟨grown_drewN (only_set _ _ _ _) _, hg, hp, A, n, c, xs, hn, (hr.keep (w' := (w.setCell ⟨g, 1, none⟩ (.int .i64 (p + 1 : Nat))).drewN q) fun b o hb => by
      show (w.setCell _ _).cell? _ = _
      exact World.cell?_setCell_other _ _ _ _ (fun e => by cases e; omega)), (hk.set_ 1 _).drewN q⟩

/-- what pick returns -/
def InPick (n x : Int) : Prop := 0 ≤ x ∧ (1 ≤ n → x < n) ∧ (n < 1 → x = 0)

theorem pick_val (X m : Int) (h0 : 0 ≤ X) (h1 : X < 4611686018427387904) (hm : 1 ≤ m) : InPick m ((bits BinOp.xor IntKind.i64 X (X / 64)).tmod m) := by
  obtain ⟨t, rfl⟩ := Int.eq_ofNat_of_zero_le h0
  have e : ((t : Int) / 64) = ((t / 64 : Nat) : Int) := by omega
  rw [e, i64_xor_nat _ _ (by omega) (by omega), Int.tmod_eq_emod_of_nonneg (by omega)]
  exact ⟨Int.emod_nonneg _ (by omega), fun _ => Int.emod_lt_of_pos _ (by omega), by omega⟩
set_option maxRecDepth 100000 in
theorem pick_any (g base p : Nat) (m : Int) (w : World) (h : Rdr w base g p) (hp : p + 1 < 1099511627776) :
    Calls Try.prog 101 #[.pointer (some ⟨g, 0, none⟩), .int .i64 m] w fun e w' => (∃ x, e = .returned (.int .i64 x) ∧ InPick m x) ∧ w.grownBy w' (some g) ∧ Rdr w' base g (p + 1) := by
  obtain ⟨hg, _, A, n, c, xs, hn, hr, hk⟩ := h
  have HN := Lib.hid fun q => rdr_next hg hp hn hr hk q
  have c0 : w.cell? ⟨g, 0, none⟩ = some (.slice A n c) := hk.cell 0
  have c1 : w.cell? ⟨g, 1, none⟩ = some (.int .i64 p) := hk.cell 1
  have f1 : w.frozen? ⟨g, 1, none⟩ = false := hk.frozen 1
  by_cases hm : m < 1
  · go_enter Try.func101, Try.ntmps101
    go_wp2
    go_ret
    exact ⟨⟨0, rfl, by omega, by omega, fun _ => rfl⟩, HN.out 0⟩
  by_cases hz : n = 0
  · subst hz
    go_enter Try.func101, Try.ntmps101
    go_wp2
    go_ret
    exact ⟨⟨0, rfl, by omega, by omega, fun _ => rfl⟩, HN.out 0⟩
  have hz' : ((n : Int) == 0) = false := by simpa using hz
  by_cases hlt : p < n
  · obtain ⟨b, off, x, rfl, hb, hx, hw, hc⟩ := hr.get hlt
    have hne : b ≠ g := by omega
    have hx2 := wf_u8 hw
    obtain ⟨x0, x1⟩ := hx2
    have hc' : ∀ v, (w.setCell ⟨g, 1, none⟩ v).cell? ⟨b, off + p, none⟩ = some (.int .u8 x) := fun v => by
      rw [World.cell?_setCell_other _ _ _ _ (fun e => hne (congrArg Addr.block e).symm)]; exact hc
    clear hx hw
    go_enter Try.func101, Try.ntmps101
    go_wp2
    go_ret
    exact ⟨⟨x % m, rfl, Int.emod_nonneg _ (by omega), fun _ => Int.emod_lt_of_pos _ (by omega), by omega⟩, HN.out 0⟩
  · obtain ⟨i1, hi1⟩ : ∃ i1 : Nat, i1 = p % n := ⟨_, rfl⟩
    obtain ⟨i2, hi2⟩ : ∃ i2 : Nat, i2 = (p * 7 + 3) % n := ⟨_, rfl⟩
    obtain ⟨q, hq⟩ : ∃ q : Nat, q = p / n := ⟨_, rfl⟩
    have hm1 : i1 < n := by rw [hi1]; exact Nat.mod_lt _ (by omega)
    have hm2 : i2 < n := by rw [hi2]; exact Nat.mod_lt _ (by omega)
    have hqp : q ≤ p := by rw [hq]; exact Nat.div_le_self _ _
    have t1 : ((p : Int).tmod (n : Int)) = (i1 : Int) := by rw [hi1, Int.tmod_eq_emod_of_nonneg (by omega)]; simp
    have t2 : (((p : Int) * 7 + 3).tmod (n : Int)) = (i2 : Int) := by rw [hi2, Int.tmod_eq_emod_of_nonneg (by omega)]; simp
    have t3 : ((p : Int).tdiv (n : Int)) = (q : Int) := by rw [hq, Int.tdiv_eq_ediv_of_nonneg (by omega)]; simp
    clear hi1 hi2 hq
    obtain ⟨b, off, x, rfl, hb, hx, hw, hc⟩ := hr.get hm1
    obtain ⟨b', off', y, e, hb', hy, hwy, hcy⟩ := hr.get hm2
    simp only [Option.some.injEq, Addr.mk.injEq] at e
    obtain ⟨rfl, rfl, -⟩ := e
    have hne : b ≠ g := by omega
    obtain ⟨x0, x1⟩ := wf_u8 hw
    obtain ⟨y0, y1⟩ := wf_u8 hwy
    have hc' : ∀ v, (w.setCell ⟨g, 1, none⟩ v).cell? ⟨b, off + i1, none⟩ = some (.int .u8 x) := fun v => by
      rw [World.cell?_setCell_other _ _ _ _ (fun e => hne (congrArg Addr.block e).symm)]; exact hc
    have hcy' : ∀ v, (w.setCell ⟨g, 1, none⟩ v).cell? ⟨b, off + i2, none⟩ = some (.int .u8 y) := fun v => by
      rw [World.cell?_setCell_other _ _ _ _ (fun e => hne (congrArg Addr.block e).symm)]; exact hcy
    have X0 : IntKind.i64.wrap x = x := IntWalk.i64_in _ (by omega)
    have Y0 : IntKind.i64.wrap y = y := IntWalk.i64_in _ (by omega)
    have W1 : IntKind.i64.wrap (x * 131) = x * 131 := IntWalk.i64_in _ (by omega)
    have W2 : IntKind.i64.wrap ((p : Int) * 7) = (p : Int) * 7 := IntWalk.i64_in _ (by omega)
    have W3 : IntKind.i64.wrap ((p : Int) * 7 + 3) = (p : Int) * 7 + 3 := IntWalk.i64_in _ (by omega)
    have W4 : IntKind.i64.wrap (y * 1117) = y * 1117 := IntWalk.i64_in _ (by omega)
    have W5 : IntKind.i64.wrap (x * 131 + y * 1117) = x * 131 + y * 1117 := IntWalk.i64_in _ (by omega)
    have W6 : IntKind.i64.wrap ((p : Int) * 29) = (p : Int) * 29 := IntWalk.i64_in _ (by omega)
    have W7 : IntKind.i64.wrap (x * 131 + y * 1117 + (p : Int) * 29) = x * 131 + y * 1117 + (p : Int) * 29 := IntWalk.i64_in _ (by omega)
    have Q0 : IntKind.i64.wrap (q : Int) = (q : Int) := IntWalk.i64_in _ (by omega)
    have W8 : IntKind.i64.wrap ((q : Int) * 53) = (q : Int) * 53 := IntWalk.i64_in _ (by omega)
    have W9 : IntKind.i64.wrap (x * 131 + y * 1117 + (p : Int) * 29 + (q : Int) * 53) = x * 131 + y * 1117 + (p : Int) * 29 + (q : Int) * 53 := IntWalk.i64_in _ (by omega)
    clear hx hw hy hwy hc hcy
    go_enter Try.func101, Try.ntmps101
    go_wp2
    go_quiet (fail)
    clear X0 Y0 W1 W2 W3 W4 W5 W6 W7 Q0 W8 W9
    go_wp2
    go_ret
    exact ⟨⟨_, rfl, pick_val _ _ (by omega) (by omega) hm⟩, HN.out nq⟩

def SomeBool (e : Ending) : Prop := ∃ b : Bool, e = .returned (.bool b)
theorem odd_any (g base p : Nat) (m : Int) (w : World) (h : Rdr w base g p) (hp : p + 1 < 1099511627776) :
    Calls Try.prog 104 #[.pointer (some ⟨g, 0, none⟩), .int .i64 m] w fun e w' => SomeBool e ∧ w.grownBy w' (some g) ∧ ∃ p', p' ≤ p + 1 ∧ Rdr w' base g p' := by
  by_cases hm : 0 < m
  · go_enter Try.func104, Try.ntmps104
    go_wp2_with (go_at_call 101; refine (pick_any g base p m _ h hp).mono ?_; rintro e w' ⟨⟨x, rfl, hx⟩, hw, hr⟩; have HX := Lib.hid hx; clear hx)
    go_ret
    exact ⟨⟨_, rfl⟩, hw, p + 1, Nat.le_refl _, hr⟩
  · go_enter Try.func104, Try.ntmps104
    go_wp2
    go_ret
    exact ⟨⟨_, rfl⟩, World.grownBy.refl _ _, p, by omega, h⟩

end Go.Proofs.Ytdbgoekemffimaa
