/- Joined texts: Draw, Front. -/
import Derived.Test.YtkmcengmglgdeaaGreatDoorSPure
import Derived.Test.YtkmcengmglgdeaaGreatDoorSBack
/- The reader of drawn codes: l20Open, pick, odd. The reader's position stands below 2^40. -/
namespace Go.Proofs.YtkmcengmglgdeaaGreatDoor
open Go.ChangeShapes Go.WideShapes Go.ChangeAt Go.RowKit

/-- block g is a reader at position p, over bytes that lie below block base -/
def Rdr (w : World) (base g p : Nat) : Prop := base ≤ g ∧ p < 1099511627776 ∧ ∃ A n c xs, n ≤ 2000 ∧ RdI .u8 w base A n c xs ∧ Blk w g 125 #[.slice A n c, .int .i64 p]

theorem rdI_prefix {k : IntKind} {w : World} {B : Nat} {A : Option Addr} {n c : Nat} {xs : List Int} (h : RdI k w B A n c xs) (m : Nat) (hm : m ≤ n) : RdI k w B A m c (xs.take m) :=
 ⟨by rw [List.length_take, h.len]; omega, by have := h.cap; omega, h.capMax, fun x hx => h.wf x (List.mem_of_mem_take hx), fun hp => by
  obtain ⟨b, off, e, hb, hc⟩ := h.at_ (by omega)
  refine ⟨b, off, e, hb, fun i x hx => hc i x ?_⟩
  rw [List.getElem?_take] at hx
  split at hx
  ·exact hx
  ·cases hx⟩

theorem l20Open_any (A : Option Addr) (n c : Nat) (xs : List Int) (w : World) (h : RdI .u8 w w.heap.size A n c xs) :
  Calls Tryz.prog 41 #[.slice A n c] w fun e w' => e = .returned (.pointer (some ⟨w.heap.size, 0, none⟩)) ∧ Below w.heap.size w w' ∧ Rdr w' w.heap.size w.heap.size 0 ∧ w'.heap.size = w.heap.size + 1 := by
 have hn := h.cap
 have hm := h.capMax
 unfold maxLen at hm
 by_cases hb : 2000 < n
 ·go_enter Tryz.func41, Tryz.ntmps41
  go_wp2
  go_ret
  have hbel : Below w.heap.size w (w.alloc (Obj.cells #[Value.slice A 2000 c, Value.int IntKind.i64 0] 125)) := (Below.refl _ _).alloc (Nat.le_refl _) _
  exact ⟨rfl, hbel, ⟨Nat.le_refl _, by omega, A, 2000, c, xs.take 2000, by omega, (rdI_prefix h 2000 (by omega)).below hbel, Blk.new _ _ _⟩, by simp⟩
 ·go_enter Tryz.func41, Tryz.ntmps41
  go_wp2
  go_ret
  have hbel : Below w.heap.size w (w.alloc (Obj.cells #[Value.slice A n c, Value.int IntKind.i64 0] 125)) := (Below.refl _ _).alloc (Nat.le_refl _) _
  exact ⟨rfl, hbel, ⟨Nat.le_refl _, by omega, A, n, c, xs, by omega, h.below hbel, Blk.new _ _ _⟩, by simp⟩

theorem rdr_next {w : World} {base g p n c : Nat} {A : Option Addr} {xs : List Int} (hg : base ≤ g) (hp : p + 1 < 1099511627776) (hn : n ≤ 2000) (hr : RdI .u8 w base A n c xs)
  (hk : Blk w g 125 #[.slice A n c, .int .i64 p]) (q : Nat) :
  w.grownBy ((w.setCell ⟨g, 1, none⟩ (.int .i64 (p + 1 : Nat))).drewN q) (some g) ∧ Rdr ((w.setCell ⟨g, 1, none⟩ (.int .i64 (p + 1 : Nat))).drewN q) base g (p + 1) :=
 ⟨grown_drewN (only_set _ _ _ _) _, hg, hp, A, n, c, xs, hn, (hr.keep (w' := (w.setCell ⟨g, 1, none⟩ (.int .i64 (p + 1 : Nat))).drewN q) fun b o hb => by
   show (w.setCell _ _).cell? _ = _
   exact World.cell?_setCell_other _ _ _ _ (fun e => by cases e; omega)), (hk.set_ 1 _).drewN q⟩

/-- what pick returns -/
def InPick (n x : Int) : Prop := 0 ≤ x ∧ (1 ≤ n → x < n) ∧ (n < 1 → x = 0)

theorem pick_val (X m : Int) (h0 : 0 ≤ X) (h1 : X < 4611686018427387904) (hm : 1 ≤ m) : InPick m ((bits BinOp.xor IntKind.i64 X (X / 64)).tmod m) := by
 obtain ⟨t, rfl⟩ := Int.eq_ofNat_of_zero_le h0
 have e : ((t : Int) / 64) = ((t / 64 : Nat) : Int) := by omega
 rw [e, i64_xor_nat _ _ (by omega) (by omega), Int.tmod_eq_emod_of_nonneg (by omega)]
 exact ⟨Int.emod_nonneg _ (by omega), fun _ => Int.emod_lt_of_pos _ (by omega), by omega⟩
set_option maxRecDepth 100000 in
theorem pick_any (g base p : Nat) (m : Int) (w : World) (h : Rdr w base g p) (hp : p + 1 < 1099511627776) :
  Calls Tryz.prog 43 #[.pointer (some ⟨g, 0, none⟩), .int .i64 m] w fun e w' => (∃ x, e = .returned (.int .i64 x) ∧ InPick m x) ∧ w.grownBy w' (some g) ∧ Rdr w' base g (p + 1) := by
 obtain ⟨hg, _, A, n, c, xs, hn, hr, hk⟩ := h
 have HN := Lib.hid fun q => rdr_next hg hp hn hr hk q
 have c0 : w.cell? ⟨g, 0, none⟩ = some (.slice A n c) := hk.cell 0
 have c1 : w.cell? ⟨g, 1, none⟩ = some (.int .i64 p) := hk.cell 1
 have f1 : w.frozen? ⟨g, 1, none⟩ = false := hk.frozen 1
 by_cases hm : m < 1
 ·go_enter Tryz.func43, Tryz.ntmps43
  go_wp2
  go_ret
  exact ⟨⟨0, rfl, by omega, by omega, fun _ => rfl⟩, HN.out 0⟩
 by_cases hz : n = 0
 ·subst hz
  go_enter Tryz.func43, Tryz.ntmps43
  go_wp2
  go_ret
  exact ⟨⟨0, rfl, by omega, by omega, fun _ => rfl⟩, HN.out 0⟩
 have hz' : ((n : Int) == 0) = false := by simpa using hz
 by_cases hlt : p < n
 ·obtain ⟨b, off, x, rfl, hb, hx, hw, hc⟩ := hr.get hlt
  have hne : b ≠ g := by omega
  have hx2 := wf_u8 hw
  obtain ⟨x0, x1⟩ := hx2
  have hc' : ∀ v, (w.setCell ⟨g, 1, none⟩ v).cell? ⟨b, off + p, none⟩ = some (.int .u8 x) := fun v => by
   rw [World.cell?_setCell_other _ _ _ _ (fun e => hne (congrArg Addr.block e).symm)]; exact hc
  clear hx hw
  go_enter Tryz.func43, Tryz.ntmps43
  go_wp2
  go_ret
  exact ⟨⟨x % m, rfl, Int.emod_nonneg _ (by omega), fun _ => Int.emod_lt_of_pos _ (by omega), by omega⟩, HN.out 0⟩
 ·obtain ⟨i1, hi1⟩ : ∃ i1 : Nat, i1 = p % n := ⟨_, rfl⟩
  obtain ⟨i2, hi2⟩ : ∃ i2 : Nat, i2 = (p * 7 + 3) % n := ⟨_, rfl⟩
  obtain ⟨q, hq⟩ : ∃ q : Nat, q = p / n := ⟨_, rfl⟩
  have hm1 : i1 < n := by rw [hi1]; exact Nat.mod_lt _ (by omega)
  have hm2 : i2 < n := by rw [hi2]; exact Nat.mod_lt _ (by omega)
  have hqp : q ≤ p := by rw [hq]; exact Nat.div_le_self _ _
  have t1 : ((p : Int).tmod (n : Int)) = (i1 : Int) := by rw [hi1, Int.tmod_eq_emod_of_nonneg (by omega)]; simp
  have t2 : (((p : Int) * 7 + 3).tmod (n : Int)) = (i2 : Int) := by rw [hi2, Int.tmod_eq_emod_of_nonneg (by omega)]; simp
  have t3 : ((p : Int).tdiv (n : Int)) = (q : Int) := by rw [hq, Int.tdiv_eq_ediv_of_nonneg (by omega)]; simp
  clear hi1 hi2 hq
  obtain ⟨b, off, x, rfl, hb, hx, hw, hc⟩ := hr.get hm1
  obtain ⟨b', off', y, e, hb', hy, hwy, hcy⟩ := hr.get hm2
  simp only [Option.some.injEq, Addr.mk.injEq] at e
  obtain ⟨rfl, rfl, -⟩ := e
  have hne : b ≠ g := by omega
  obtain ⟨x0, x1⟩ := wf_u8 hw
  obtain ⟨y0, y1⟩ := wf_u8 hwy
  have hc' : ∀ v, (w.setCell ⟨g, 1, none⟩ v).cell? ⟨b, off + i1, none⟩ = some (.int .u8 x) := fun v => by
   rw [World.cell?_setCell_other _ _ _ _ (fun e => hne (congrArg Addr.block e).symm)]; exact hc
  have hcy' : ∀ v, (w.setCell ⟨g, 1, none⟩ v).cell? ⟨b, off + i2, none⟩ = some (.int .u8 y) := fun v => by
   rw [World.cell?_setCell_other _ _ _ _ (fun e => hne (congrArg Addr.block e).symm)]; exact hcy
  have X0 : IntKind.i64.wrap x = x := IntWalk.i64_in _ (by omega)
  have Y0 : IntKind.i64.wrap y = y := IntWalk.i64_in _ (by omega)
  have W1 : IntKind.i64.wrap (x * 131) = x * 131 := IntWalk.i64_in _ (by omega)
  have W2 : IntKind.i64.wrap ((p : Int) * 7) = (p : Int) * 7 := IntWalk.i64_in _ (by omega)
  have W3 : IntKind.i64.wrap ((p : Int) * 7 + 3) = (p : Int) * 7 + 3 := IntWalk.i64_in _ (by omega)
  have W4 : IntKind.i64.wrap (y * 1117) = y * 1117 := IntWalk.i64_in _ (by omega)
  have W5 : IntKind.i64.wrap (x * 131 + y * 1117) = x * 131 + y * 1117 := IntWalk.i64_in _ (by omega)
  have W6 : IntKind.i64.wrap ((p : Int) * 29) = (p : Int) * 29 := IntWalk.i64_in _ (by omega)
  have W7 : IntKind.i64.wrap (x * 131 + y * 1117 + (p : Int) * 29) = x * 131 + y * 1117 + (p : Int) * 29 := IntWalk.i64_in _ (by omega)
  have Q0 : IntKind.i64.wrap (q : Int) = (q : Int) := IntWalk.i64_in _ (by omega)
  have W8 : IntKind.i64.wrap ((q : Int) * 53) = (q : Int) * 53 := IntWalk.i64_in _ (by omega)
  have W9 : IntKind.i64.wrap (x * 131 + y * 1117 + (p : Int) * 29 + (q : Int) * 53) = x * 131 + y * 1117 + (p : Int) * 29 + (q : Int) * 53 := IntWalk.i64_in _ (by omega)
  clear hx hw hy hwy hc hcy
  go_enter Tryz.func43, Tryz.ntmps43
  go_wp2
  go_quiet (fail)
  clear X0 Y0 W1 W2 W3 W4 W5 W6 W7 Q0 W8 W9
  go_wp2
  go_ret
  exact ⟨⟨_, rfl, pick_val _ _ (by omega) (by omega) hm⟩, HN.out nq⟩

def SomeBool (e : Ending) : Prop := ∃ b : Bool, e = .returned (.bool b)
theorem odd_any (g base p : Nat) (m : Int) (w : World) (h : Rdr w base g p) (hp : p + 1 < 1099511627776) :
  Calls Tryz.prog 85 #[.pointer (some ⟨g, 0, none⟩), .int .i64 m] w fun e w' => SomeBool e ∧ w.grownBy w' (some g) ∧ ∃ p', p' ≤ p + 1 ∧ Rdr w' base g p' := by
 by_cases hm : 0 < m
 ·go_enter Tryz.func85, Tryz.ntmps85
  go_wp2_with (go_at_call 43; refine (pick_any g base p m _ h hp).mono ?_; rintro e w' ⟨⟨x, rfl, hx⟩, hw, hr⟩; have HX := Lib.hid hx; clear hx)
  go_ret
  exact ⟨⟨_, rfl⟩, hw, p + 1, Nat.le_refl _, hr⟩
 ·go_enter Tryz.func85, Tryz.ntmps85
  go_wp2
  go_ret
  exact ⟨⟨_, rfl⟩, World.grownBy.refl _ _, p, by omega, h⟩

end Go.Proofs.YtkmcengmglgdeaaGreatDoor

/- The list of things with an open tail: things are laid in front and taken away in front; the reader of drawn codes as a thing. -/
namespace Go.Proofs.YtkmcengmglgdeaaGreatDoor
set_option linter.unusedVariables false
set_option linter.unusedSimpArgs false
open Go.ChangeShapes Go.WideShapes Go.ChangeAt Go.RowKit

section
variable {w W W' : World} {L L' : List HRes} {R R' : HRes}
theorem match_perm {W : World} {L L' : List HRes} (h : L.Perm L') : ∀ Fs : List (List Nat), Fs.length = L.length → (∀ (i : Nat) R F, L[i]? = some R → Fs[i]? = some F → R.at_ W F ∧ ∀ b ∈ F, w.heap.size ≤ b) →
  ∃ Gs : List (List Nat), Gs.Perm Fs ∧ Gs.length = L'.length ∧ ∀ (i : Nat) R F, L'[i]? = some R → Gs[i]? = some F → R.at_ W F ∧ ∀ b ∈ F, w.heap.size ≤ b := by
 induction h with
 | nil => intro Fs h1 h2; exact ⟨Fs, List.Perm.refl _, h1, h2⟩
 | cons x h ih =>
  intro Fs h1 h2
  match Fs, h1 with
  | F :: Fs, h1 =>
   obtain ⟨Gs, g1, g2, g3⟩ := ih Fs (by simpa using h1) fun i R G hR hG => h2 (i + 1) R G (by simpa using hR) (by simpa using hG)
   refine ⟨F :: Gs, g1.cons F, by simpa using g2, fun i R G hR hG => ?_⟩
   match i with
   | 0 => exact h2 0 R G hR hG
   | i + 1 => exact g3 i R G (by simpa using hR) (by simpa using hG)
 | swap x y l =>
  intro Fs h1 h2
  match Fs, h1 with
  | F :: G :: Fs, h1 =>
   refine ⟨G :: F :: Fs, List.Perm.swap .., by simpa using h1, fun i R H hR hH => ?_⟩
   match i with
   | 0 => exact h2 1 R H hR hH
   | 1 => exact h2 0 R H hR hH
   | i + 2 => exact h2 (i + 2) R H hR hH
 | trans _ _ ih1 ih2 =>
  intro Fs h1 h2
  obtain ⟨Gs, g1, g2, g3⟩ := ih1 Fs h1 h2
  obtain ⟨Hs, k1, k2, k3⟩ := ih2 Gs g2 g3
  exact ⟨Hs, k1.trans g1, k2, k3⟩
theorem St.perm (h : St w W L) (p : L.Perm L') : St w W L' := by
 obtain ⟨Fs, h1, h2, h3⟩ := h.has
 obtain ⟨Gs, g1, g2, g3⟩ := match_perm (w := w) p Fs h1 h2
 exact ⟨h.below, Gs, g2, g3, (g1.flatten.nodup_iff).2 h3⟩
theorem St.tl (h : St w W (R :: L)) : St w W L := by
 obtain ⟨Fs, h1, h2, h3⟩ := h.has
 match Fs, h1, h2, h3 with
 | F :: Fs, h1, h2, h3 =>
  refine ⟨h.below, Fs, by simpa using h1, fun i R G hR hG => h2 (i + 1) R G (by simpa using hR) (by simpa using hG), ?_⟩
  rw [List.flatten_cons, List.nodup_append] at h3
  exact h3.2.1
theorem eraseIdx_perm {L : List HRes} : ∀ {i : Nat}, L[i]? = some R → L.Perm (R :: L.eraseIdx i) := by
 induction L with
 | nil => intro i h; simp at h
 | cons x l ih =>
  intro i h
  match i with
  | 0 => simp at h; subst h; exact List.Perm.refl _
  | i + 1 =>
   simp only [List.getElem?_cons_succ] at h
   exact ((ih h).cons x).trans (List.Perm.swap ..)
/-- the thing at i comes to the front -/
theorem St.bring (h : St w W L) (i : Nat) (hi : L[i]? = some R) : St w W (R :: L.eraseIdx i) := h.perm (eraseIdx_perm hi)
/-- the thing at i goes -/
theorem St.rid (h : St w W L) (i : Nat) (hi : L[i]? = some R) : St w W (L.eraseIdx i) := (h.bring i hi).tl
theorem St.swap2 {R₁ R₂ : HRes} (h : St w W (R₁ :: R₂ :: L)) : St w W (R₂ :: R₁ :: L) := h.perm (List.Perm.swap ..)
/-- what a call gives, behind the first thing -/
theorem St.call1 (h : St w W (R :: L)) (k : St W W' [R']) : St w W' (R :: R' :: L) :=
 (h.call k).perm (((List.perm_append_comm (l₁ := R :: L) (l₂ := [R'])).trans (List.Perm.swap ..)))
theorem St.callF (h : St w W L) (k : St W W' [R']) : St w W' (R' :: L) := (h.call k).perm (List.perm_append_comm (l₁ := L) (l₂ := [R']))
theorem St.alloc1 (h : St w W (R :: L)) (cs : Array Value) (t : TypeId) : St w (W.alloc (.cells cs t)) (R :: rBlk W.heap.size t cs :: L) := h.call1 (St.new1 W cs t)
theorem St.allocF (h : St w W L) (cs : Array Value) (t : TypeId) : St w (W.alloc (.cells cs t)) (rBlk W.heap.size t cs :: L) := h.callF (St.new1 W cs t)
theorem Sn.all {M : Nat → Option HRes} (h : Sn w W M) (e : ∀ i, M i = L[i]?) : St w W L :=
 h.to_st (List.range L.length) List.nodup_range (by
  refine List.ext_getElem (by simp) fun i h1 h2 => ?_
  simp only [List.length_map, List.length_range] at h1
  simp only [List.getElem_map, List.getElem_range]
  rw [e i, List.getElem?_eq_getElem h1])
end
/-! ### the reader -/
/-- a reader on block g, over bytes of the world w0, at a position up to hi -/
def rRd (w0 : World) (g hi : Nat) : HRes where
 at_ W F := F = [g] ∧ ∃ p A n c xs, p ≤ hi ∧ n ≤ 2000 ∧ RdI .u8 w0 w0.heap.size A n c xs ∧ Blk W g 125 #[.slice A n c, .int .i64 (p : Nat)]
 keep W W' F h hk := by
  obtain ⟨e, p, A, n, c, xs, h1, h2, h3, h4⟩ := h
  exact ⟨e, p, A, n, c, xs, h1, h2, h3, (hk g (by rw [e]; simp)).trans h4⟩
 lt W F h b hb := by
  obtain ⟨e, p, A, n, c, xs, h1, h2, h3, h4⟩ := h
  rw [e] at hb; simp at hb; subst hb; exact h4.lt
 nd W F h := by rw [h.1]; simp
section
variable {w W W' : World} {L L' : List HRes}
theorem St.more {g hi hi' : Nat} (h : St w W (rRd w g hi :: L)) (hh : hi ≤ hi') : St w W (rRd w g hi' :: L) :=
 h.see fun F ⟨e, p, A, n, c, xs, h1, h2⟩ _ => ⟨e, p, A, n, c, xs, by omega, h2⟩
theorem rd_post {g hi : Nat} (S : St w W (rRd w g hi :: L)) {base p q : Nat} (hpq : q ≤ hi + 1) (hg : W.grownBy W' (some g)) {A : Option Addr} {n c : Nat} {xs : List Int} (hn : n ≤ 2000) (hr : RdI .u8 w w.heap.size A n c xs) (hb : Blk W' g 125 #[.slice A n c, .int .i64 (q : Nat)]) : St w W' (rRd w g (hi + 1) :: L) :=
 S.mod 0 rfl fun F ⟨e, _⟩ _ => ⟨F, ⟨e, q, A, n, c, xs, hpq, hn, hr, hb⟩, fun b hb => .inl hb, by rw [e]; exact Only.of_grown hg⟩
theorem pick_rd {g hi : Nat} (S : St w W (rRd w g hi :: L)) (hh : hi ≤ 549755813888) (m : Int) :
  Calls Tryz.prog 43 #[.pointer (some ⟨g, 0, none⟩), .int .i64 m] W fun e w' => ∃ x, e = .returned (.int .i64 x) ∧ InPick m x ∧ St w w' (rRd w g (hi + 1) :: L) := by
 obtain ⟨F, ⟨hF, p, A, n, c, xs, h1, h2, h3, h4⟩, hlo⟩ := S.get 0 rfl
 have hg : w.heap.size ≤ g := hlo g (by rw [hF]; simp)
 have hR : Rdr W w.heap.size g p := ⟨hg, by omega, A, n, c, xs, h2, h3.below S.below, h4⟩
 refine (pick_any g w.heap.size p m W hR (by omega)).mono fun e w' ⟨⟨x, he, hx⟩, hgr, hr⟩ => ⟨x, he, hx, ?_⟩
 obtain ⟨-, -, A', n', c', ys, k1, k2, k3⟩ := hr
 have hb : Below w.heap.size W w' := (Below.refl _ _).grown hgr S.size (fun k hk => by cases hk; exact hg)
 refine rd_post S (p := p) (base := 0) (q := p + 1) (by omega) hgr k1 ⟨k2.len, k2.cap, k2.capMax, k2.wf, fun hp => ?_⟩ k3
 obtain ⟨b, off, e, hbb, hc⟩ := k2.at_ hp
 exact ⟨b, off, e, hbb, fun i x hx => (bcells (S.below.trans hb) b _ hbb).symm.trans (hc i x hx)⟩
theorem odd_rd {g hi : Nat} (S : St w W (rRd w g hi :: L)) (hh : hi ≤ 549755813888) (m : Int) :
  Calls Tryz.prog 85 #[.pointer (some ⟨g, 0, none⟩), .int .i64 m] W fun e w' => ∃ b : Bool, e = .returned (.bool b) ∧ St w w' (rRd w g (hi + 1) :: L) := by
 obtain ⟨F, ⟨hF, p, A, n, c, xs, h1, h2, h3, h4⟩, hlo⟩ := S.get 0 rfl
 have hg : w.heap.size ≤ g := hlo g (by rw [hF]; simp)
 have hR : Rdr W w.heap.size g p := ⟨hg, by omega, A, n, c, xs, h2, h3.below S.below, h4⟩
 refine (odd_any g w.heap.size p m W hR (by omega)).mono fun e w' ⟨⟨b, he⟩, hgr, q, hq, hr⟩ => ⟨b, he, ?_⟩
 obtain ⟨-, -, A', n', c', ys, k1, k2, k3⟩ := hr
 have hb : Below w.heap.size W w' := (Below.refl _ _).grown hgr S.size (fun k hk => by cases hk; exact hg)
 refine rd_post S (p := p) (base := 0) (q := q) (by omega) hgr k1 ⟨k2.len, k2.cap, k2.capMax, k2.wf, fun hp => ?_⟩ k3
 obtain ⟨b, off, e, hbb, hc⟩ := k2.at_ hp
 exact ⟨b, off, e, hbb, fun i x hx => (bcells (S.below.trans hb) b _ hbb).symm.trans (hc i x hx)⟩
end
end Go.Proofs.YtkmcengmglgdeaaGreatDoor
