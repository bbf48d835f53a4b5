/- Joined texts: Base, Mem. -/
import Derived.Test.YtkmcengmglgdeaaGreatDoorRows
import Derived.WalkKit
import Derived.ProofKit
import Derived.OpenShut
import Derived.Below
import Derived.Deep.QuietTactic
import Derived.BigQuiet
import Derived.Lib.Hide
import Derived.Laws.BitsAllLaws
import Derived.Laws.BitsLemmas
import Derived.Maps.AppendAt
import Derived.OwnWalk
import Derived.Laws.OwnMore
import Derived.Laws.MakeOwn
/- Plain lemmas on bits of nonnegative numbers and on endings: what the walks of this seat lean on. No condition. -/
namespace Go.Proofs.YtkmcengmglgdeaaGreatDoor
open Go.ChangeShapes Go.WideShapes Go.ChangeAt Go.RowKit

theorem ofInt_i64 (a : Nat) (ha : a < 9223372036854775808) : (BitVec.ofInt 64 (a : Int)).toNat = a := by
 rw [BitVec.ofInt_natCast, BitVec.toNat_ofNat]; exact Nat.mod_eq_of_lt (by omega)
theorem i64_and_nat (a b : Nat) (ha : a < 9223372036854775808) (hb : b < 9223372036854775808) : bits .and .i64 (a : Int) (b : Int) = ((a &&& b : Nat) : Int) := by
 have hx : a &&& b < 2 ^ 63 := Nat.and_lt_two_pow _ (by omega)
 show IntKind.i64.wrap ((BitVec.ofInt 64 (a : Int) &&& BitVec.ofInt 64 (b : Int)).toNat : Int) = _
 rw [BitVec.toNat_and, ofInt_i64 a ha, ofInt_i64 b hb, IntKind.wrap_i64]
 omega
theorem i64_or_nat (a b : Nat) (ha : a < 9223372036854775808) (hb : b < 9223372036854775808) : bits .or .i64 (a : Int) (b : Int) = ((a ||| b : Nat) : Int) := by
 have hx : a ||| b < 2 ^ 63 := Nat.or_lt_two_pow (by omega) (by omega)
 show IntKind.i64.wrap ((BitVec.ofInt 64 (a : Int) ||| BitVec.ofInt 64 (b : Int)).toNat : Int) = _
 rw [BitVec.toNat_or, ofInt_i64 a ha, ofInt_i64 b hb, IntKind.wrap_i64]
 omega
theorem i64_xor_nat (a b : Nat) (ha : a < 9223372036854775808) (hb : b < 9223372036854775808) : bits .xor .i64 (a : Int) (b : Int) = ((a ^^^ b : Nat) : Int) := by
 have hx : a ^^^ b < 2 ^ 63 := Nat.xor_lt_two_pow (by omega) (by omega)
 show IntKind.i64.wrap ((BitVec.ofInt 64 (a : Int) ^^^ BitVec.ofInt 64 (b : Int)).toNat : Int) = _
 rw [BitVec.toNat_xor, ofInt_i64 a ha, ofInt_i64 b hb, IntKind.wrap_i64]
 omega
theorem i64_andNot_nat (a b : Nat) (ha : a < 9223372036854775808) (hb : b < 9223372036854775808) : bits .andNot .i64 (a : Int) (b : Int) = ((a - (a &&& b) : Nat) : Int) := by
 have hx : a &&& b ≤ a := Nat.and_le_left
 have key : (BitVec.ofInt 64 (a : Int) &&& ~~~ BitVec.ofInt 64 (b : Int)).toNat = a - (a &&& b) := by
  have e : BitVec.ofInt 64 (a : Int) &&& ~~~ BitVec.ofInt 64 (b : Int) = BitVec.ofInt 64 (a : Int) - (BitVec.ofInt 64 (a : Int) &&& BitVec.ofInt 64 (b : Int)) := by
   generalize BitVec.ofInt 64 (a : Int) = x
   generalize BitVec.ofInt 64 (b : Int) = y
   rw [BitVec.sub_eq_add_neg]
   have h1 : x = (x &&& ~~~ y) + (x &&& y) := by
    rw [BitVec.add_eq_or_of_and_eq_zero]
    ·ext i; simp; cases x[i] <;> cases y[i] <;> rfl
    ·ext i; simp; cases x[i] <;> cases y[i] <;> simp
   conv => rhs; lhs; rw [h1]
   rw [BitVec.add_assoc, BitVec.add_right_neg, BitVec.add_zero]
  rw [e, BitVec.toNat_sub_of_le, BitVec.toNat_and, ofInt_i64 a ha, ofInt_i64 b hb]
  rw [BitVec.le_def, BitVec.toNat_and]; exact Nat.and_le_left
 show IntKind.i64.wrap ((BitVec.ofInt 64 (a : Int) &&& ~~~ BitVec.ofInt 64 (b : Int)).toNat : Int) = _
 rw [key, IntKind.wrap_i64]
 omega
theorem ret_int {k : IntKind} {a b : Int} (h : a = b) : Ending.returned (.int k a) = .returned (.int k b) := by rw [h]
theorem ret_bool {a b : Bool} (h : a = b) : Ending.returned (.bool a) = .returned (.bool b) := by rw [h]
theorem toNat_cast {a : Int} (h : 0 ≤ a) : ((a.toNat : Nat) : Int) = a := Int.toNat_of_nonneg h

/-! ### Slices of numbers that are read -/
/-- in w, below block B, the slice at A with n elements (capacity c) reads as these numbers, which fit their kind -/
structure RdI (k : IntKind) (w : World) (B : Nat) (A : Option Addr) (n c : Nat) (xs : List Int) : Prop where
 len : xs.length = n
 cap : n ≤ c
 capMax : c ≤ maxLen
 wf : ∀ x ∈ xs, (Lit.int k x).wf = true
 at_ : 0 < n → ∃ b off, A = some ⟨b, off, none⟩ ∧ b < B ∧ ∀ i x, xs[i]? = some x → w.cell? ⟨b, off + i, none⟩ = some (.int k x)

section
variable {k : IntKind} {w w' : World} {B : Nat} {A : Option Addr} {n c : Nat} {xs : List Int}
theorem RdI.keep (h : RdI k w B A n c xs) (hk : ∀ b o, b < B → w'.cell? ⟨b, o, none⟩ = w.cell? ⟨b, o, none⟩) : RdI k w' B A n c xs :=
 ⟨h.len, h.cap, h.capMax, h.wf, fun hn => by
  obtain ⟨b, off, e, hb, hc⟩ := h.at_ hn
  exact ⟨b, off, e, hb, fun i x hx => (hk b _ hb).trans (hc i x hx)⟩⟩
theorem RdI.below (h : RdI k w B A n c xs) (hb : Below B w w') : RdI k w' B A n c xs :=
 h.keep fun b o hlt => hb.cell (p := ⟨b, o, none⟩) hlt
theorem RdI.more {B' : Nat} (h : RdI k w B A n c xs) (hB : B ≤ B') : RdI k w B' A n c xs :=
 ⟨h.len, h.cap, h.capMax, h.wf, fun hn => by
  obtain ⟨b, off, e, hb, hc⟩ := h.at_ hn
  exact ⟨b, off, e, by omega, hc⟩⟩
/-- the element at i, where there is one -/
theorem RdI.get (h : RdI k w B A n c xs) {i : Nat} (hi : i < n) : ∃ b off x, A = some ⟨b, off, none⟩ ∧ b < B ∧ xs[i]? = some x ∧ (Lit.int k x).wf = true ∧ w.cell? ⟨b, off + i, none⟩ = some (.int k x) := by
 obtain ⟨b, off, e, hb, hc⟩ := h.at_ (by omega)
 have hl : i < xs.length := by rw [h.len]; exact hi
 exact ⟨b, off, xs[i], e, hb, List.getElem?_eq_getElem hl, h.wf _ (List.getElem_mem hl), hc i _ (List.getElem?_eq_getElem hl)⟩
theorem RdI.nil_ (k : IntKind) (w : World) (B : Nat) : RdI k w B none 0 0 [] := ⟨rfl, Nat.le_refl _, by unfold maxLen; omega, by simp, fun h => absurd h (by omega)⟩
theorem RdI.of_own {base : Nat} {e : TypeId} {v : Value} (h : w.ownsRow base e 1 v n (xs.map (.int k))) (hw : ∀ x ∈ xs, (Lit.int k x).wf = true) :
  ∃ A c, v = .slice A n c ∧ RdI k w w.heap.size A n c xs := by
 obtain ⟨hl, h2⟩ := h
 rcases h2 with ⟨rfl, rfl⟩ | ⟨g, cap, cur, rfl, hb, hh, h3, h4, h5, h6⟩
 ·exact ⟨none, 0, rfl, by simpa using hl, Nat.le_refl _, by unfold maxLen; omega, hw, fun h => absurd h (by omega)⟩
 ·refine ⟨_, _, rfl, by simpa using hl, h3, h4, hw, fun _ => ⟨g, 0, rfl, (Array.getElem?_eq_some_iff.1 hh).1, fun i x hx => ?_⟩⟩
  have hc : w.cell? ⟨g, 0 + i, none⟩ = cur[i]? := by rw [Nat.zero_add]; exact cell_of_row w g i cur e (0, 0) hh
  rw [hc]
  have h7 : (cur.toList.take (n * 1))[i]? = some (.int k x) := by rw [h6]; simp [hx]
  rw [List.getElem?_take] at h7
  split at h7
  ·simpa using h7
  ·cases h7
theorem rdI_own {base : Nat} {e : TypeId} (h : w.ownsRow base e 1 (.slice A n c) n (xs.map (.int k))) (hw : ∀ x ∈ xs, (Lit.int k x).wf = true) : RdI k w w.heap.size A n c xs := by
 obtain ⟨A', c', e, hr⟩ := RdI.of_own h hw
 simp only [Value.slice.injEq] at e
 obtain ⟨rfl, -, rfl⟩ := e
 exact hr
end
theorem bcells {B : Nat} {w w' : World} (h : Below B w w') : ∀ b o, b < B → w'.cell? ⟨b, o, none⟩ = w.cell? ⟨b, o, none⟩ := fun b o hlt => h.cell (p := ⟨b, o, none⟩) hlt

theorem wf_i64 {x : Int} (h : (Lit.int .i64 x).wf = true) : -9223372036854775808 ≤ x ∧ x ≤ 9223372036854775807 := by
 simpa [Lit.wf, IntKind.min, IntKind.max, IntKind.signed, IntKind.bits] using h
theorem wf_u8 {x : Int} (h : (Lit.int .u8 x).wf = true) : 0 ≤ x ∧ x ≤ 255 := by
 simpa [Lit.wf, IntKind.min, IntKind.max, IntKind.signed, IntKind.bits] using h
theorem wf_i64_mk {x : Int} (h : -9223372036854775808 ≤ x ∧ x ≤ 9223372036854775807) : (Lit.int .i64 x).wf = true := by
 simpa [Lit.wf, IntKind.min, IntKind.max, IntKind.signed, IntKind.bits] using h

/-- a slice of numbers that came in -/
theorem rdI_of_came {P : Program} {H : Type} {enc : TypeId × Value → H} {W : World} {base : Nat} {spare : Nat → Bool} {held : Bool} {fuel : Nat} {k : IntKind} {t e : TypeId} {A : Option Addr} {n c : Nat} {x : DataW H × List MemPlace}
  (ht : P.underlying t = some (.slice e)) (he : P.underlying e = some (.int k)) (hc : P.cellsOf e = 1) (h : DataW.trod enc P W base spare held fuel t (Value.slice A n c).cells.toList = some x) :
  ∃ xs, RdI k W W.heap.size A n c xs := by
 rcases open_ints ht he hc h with ⟨hcs, _⟩ | ⟨a, l, cc, zs, hcs, _, hl, hm, hz, _, hcell, hwz⟩
 ·simp [Value.cells] at hcs
  obtain ⟨rfl, rfl, rfl⟩ := hcs
  exact ⟨[], RdI.nil_ _ _ _⟩
 ·simp [Value.cells] at hcs
  obtain ⟨rfl, rfl, rfl⟩ := hcs
  have hlz : n ≤ zs.length := by rw [hz]; split <;> omega
  refine ⟨zs.take n, by simp; omega, hl, hm, fun y hy => hwz y (List.mem_of_mem_take hy), fun hn => ?_⟩
  obtain ⟨b, off, rfl, hat⟩ := ints_at hcell (by omega)
  have h0 := hat 0 (by omega)
  refine ⟨b, off, rfl, World.block_lt_of_cell? W _ h0, fun i y hy => ?_⟩
  rw [List.getElem?_take] at hy
  split at hy
  ·rename_i hi
   rw [hat i (by omega), List.getD, hy]; rfl
  ·cases hy
end Go.Proofs.YtkmcengmglgdeaaGreatDoor

/- Words on memory: a block known whole, a row that is read, a row of the call's own, append onto it. No condition. -/
namespace Go.Proofs.YtkmcengmglgdeaaGreatDoor
open Go.ChangeShapes Go.WideShapes Go.ChangeAt Go.RowKit

/-- block g holds just these cells of type t, none of them frozen -/
def Blk (w : World) (g : Nat) (t : TypeId) (cs : Array Value) : Prop := w.heap[g]? = some (.cells cs t (0, 0))
section
variable {w w' : World} {g : Nat} {t : TypeId} {cs : Array Value}
theorem Blk.lt (h : Blk w g t cs) : g < w.heap.size := (Array.getElem?_eq_some_iff.1 h).1
theorem Blk.cell (h : Blk w g t cs) (i : Nat) : w.cell? ⟨g, i, none⟩ = cs[i]? := cell_of_row w g i cs t (0, 0) h
theorem Blk.frozen (h : Blk w g t cs) (i : Nat) : w.frozen? ⟨g, i, none⟩ = false := by unfold Blk at h; simp [World.frozen?, h]
theorem Blk.new (w : World) (t : TypeId) (cs : Array Value) : Blk (w.alloc (.cells cs t)) w.heap.size t cs := heap_alloc_new w _
theorem Blk.drewN (h : Blk w g t cs) (n : Nat) : Blk (w.drewN n) g t cs := h
theorem Blk.alloc (h : Blk w g t cs) (o : Obj) : Blk (w.alloc o) g t cs := (Below.heap_alloc w o g h.lt).trans h
theorem Blk.set_ (h : Blk w g t cs) (i : Nat) (u : Value) : Blk (w.setCell ⟨g, i, none⟩ u) g t (cs.setIfInBounds i u) := by
 unfold Blk at h ⊢
 simp [World.setCell, Array.getElem?_modify, h]
theorem Blk.far (h : Blk w g t cs) {p : Addr} (hp : g ≠ p.block) (u : Value) : Blk (w.setCell p u) g t cs := (Below.heap_setCell w p u g hp).trans h
theorem Blk.below {B : Nat} (h : Blk w g t cs) (hb : Below B w w') (hg : g < B) : Blk w' g t cs := (hb.block g hg).trans h
theorem Blk.grown {row : Option Nat} (h : Blk w g t cs) (hb : w.grownBy w' row) (hg : some g ≠ row) : Blk w' g t cs := (hb.block g h.lt hg).trans h
end
theorem below_drewN {B : Nat} {a w : World} (h : Below B a w) (n : Nat) : Below B a (w.drewN n) := ⟨h.os, h.tape, h.output, h.size, h.block⟩

/-- only block g has turned; the new blocks stand above -/
theorem only_set (w : World) (g i : Nat) (u : Value) : w.grownBy (w.setCell ⟨g, i, none⟩ u) (some g) :=
 ⟨rfl, rfl, rfl, by simp [World.setCell], fun k _ hne => Below.heap_setCell _ _ _ _ (fun e => hne (by rw [e]))⟩
theorem grown_drewN {a w : World} {row : Option Nat} (h : a.grownBy w row) (n : Nat) : a.grownBy (w.drewN n) row := ⟨h.os, h.tape, h.output, h.size, h.block⟩

/-- the same world but for the count of draws -/
def Same (w' w : World) : Prop := w'.heap = w.heap ∧ w'.os = w.os ∧ w'.tape = w.tape ∧ w'.output = w.output
theorem Same.blk {w w' : World} (h : Same w' w) {g : Nat} {t : TypeId} {cs : Array Value} (k : Blk w g t cs) : Blk w' g t cs := by unfold Blk at *; rw [h.1]; exact k
theorem Same.grown {a w w' : World} (h : Same w' w) {row : Option Nat} (k : a.grownBy w row) : a.grownBy w' row :=
 ⟨h.2.1.trans k.os, h.2.2.1.trans k.tape, h.2.2.2.trans k.output, by rw [h.1]; exact k.size, fun i hi hn => by rw [h.1]; exact k.block i hi hn⟩
theorem grown_set {a w : World} {g : Nat} (h : a.grownBy w (some g)) (i : Nat) (u : Value) : a.grownBy (w.setCell ⟨g, i, none⟩ u) (some g) :=
 h.trans (only_set w g i u)


def bit (a k : Nat) : Nat := a / 2 ^ k % 2
/-- numbers as values -/
def ints (xs : List Int) : List Value := xs.map (.int .i64)
@[simp] theorem ints_len (xs : List Int) : (ints xs).length = xs.length := by simp [ints]
theorem ints_append (xs ys : List Int) : ints (xs ++ ys) = ints xs ++ ints ys := by simp [ints]
theorem ints_cell (xs : List Int) : ∀ u ∈ ints xs, u.oneCell' = true := ints_oneCell .i64 xs

/-- in w, below block B, the slice at A with n elements of 'size' cells reads as these cells -/
structure RdRow (w : World) (B size : Nat) (A : Option Addr) (n c : Nat) (vs : List Value) : Prop where
 len : vs.length = n * size
 cap : n ≤ c
 capMax : c ≤ maxLen
 at_ : 0 < n → ∃ b off, A = some ⟨b, off, none⟩ ∧ b < B ∧ ∀ i v, vs[i]? = some v → w.cell? ⟨b, off + i, none⟩ = some v
theorem RdI.row {w : World} {B n c : Nat} {A : Option Addr} {xs : List Int} (h : RdI .i64 w B A n c xs) : RdRow w B 1 A n c (ints xs) :=
 ⟨by simp [h.len], h.cap, h.capMax, fun hn => by
  obtain ⟨b, off, e, hb, hc⟩ := h.at_ hn
  refine ⟨b, off, e, hb, fun i v hv => ?_⟩
  unfold ints at hv
  rw [List.getElem?_map] at hv
  obtain ⟨x, hx, rfl⟩ := Option.map_eq_some_iff.1 hv
  exact hc i x hx⟩
theorem RdRow.new (w : World) (cs : List Value) (t : TypeId) (size n : Nat) (hl : cs.length = n * size) (hn : n ≤ maxLen) : RdRow (w.alloc (.cells cs.toArray t)) (w.heap.size + 1) size (some ⟨w.heap.size, 0, none⟩) n n cs :=
 ⟨hl, Nat.le_refl _, hn, fun _ => ⟨w.heap.size, 0, rfl, by omega, fun i v hv => by
  rw [Nat.zero_add, (Blk.new w t cs.toArray).cell i]; simpa using hv⟩⟩

/-- an element type's row of the program's table -/
structure ElemT (P : Program) (t e : TypeId) (z : Value) (size bytes : Nat) : Prop where
 ht : P.underlying t = some (.slice e)
 hi : ∃ i, P.info? e = some i ∧ i.zero = some z ∧ i.size = size ∧ i.bytes = bytes
 hzs : z.cells.size = size
 hsz : 0 < size

/-- 'append(s, x...)', s a row of the call's own, x any row -/
theorem wp_app {P : Program} {t e : TypeId} {z : Value} {size bytes : Nat} (E : ElemT P t e z size bytes) {w : World} {ops : Array Oper} {rest : List Oper} {o : Oper} {a : Act} {Q : Exit → Act → World → Prop} (hgd : o.guard = none) (s x : Operand)
  (ho : o.op = .call { callee := .builtin .append, args := #[s, x], argTypes := #[t, t] })
  (base : Nat) (v : Value) (n : Nat) (xs : List Value) (hs : a.eval s = v) (hown : w.ownsRow base e size v n xs)
  (B : Nat) (A : Option Addr) (m c : Nat) (news : List Value) (hx : a.eval x = .slice A m c) (hr : RdRow w B size A m c news) (h1 : ∀ u ∈ news, u.oneCell' = true)
  (hbytes : (n + m) * bytes ≤ 140737488355328) (h63 : n + m ≤ 140737488355328) (hbase : base ≤ w.heap.size)
  (h : ∀ v' w', w'.ownsRow base e size v' (n + m) (xs ++ news) → w.grownBy w' v.ownBlock → (v'.ownBlock = v.ownBlock ∨ v'.ownBlock = some w.heap.size) → wpList P ops Q rest (a.put o.dst v') w') : wpList P ops Q (o :: rest) a w := by
 obtain ⟨i, hi, hz, hsize, hby⟩ := E.hi
 by_cases hm : m = 0
 ·subst hm
  obtain rfl : news = [] := List.eq_nil_of_length_eq_zero (by simpa using hr.len)
  have key : (Builtin.append_ #[t, t] o.type #[v, .slice A 0 c]).run P w = .ok v w := by
   rcases hown.2 with ⟨rfl, rfl⟩ | ⟨g, cap, cur, rfl, _, _, hnc, _⟩
   ·cases A <;> simp [Builtin.append_, run_underlying E.ht, sizeOf, typeInfo, hi, Builtin.lenOf, Builtin.firstCells, loadCells, loadCellsFrom]
   ·cases A <;> simp [Builtin.append_, run_underlying E.ht, sizeOf, typeInfo, hi, Builtin.lenOf, Builtin.firstCells, hnc, storeCells, loadCells, loadCellsFrom]
  refine wpList_plain hgd fun K hK => ?_
  unfold Oper.wp execOp
  simp only [ho, resolve, invoke, builtin, Sem.run_bind, Sem.run_pure, Result.andThen_ok, List.map_toArray, List.map_cons, List.map_nil, hs, hx, key]
  exact hK _ _ (h v w (by simpa using hown) (World.grownBy.refl w _) (.inl rfl))
 ·obtain ⟨b, off, rfl, hb, hc⟩ := hr.at_ (by omega)
  exact wpList_append_own_at w hgd s x t ho base e i z size bytes E.ht hi hz hsize hby E.hzs E.hsz v n xs hs hown _ m c news hx hr.len (fun j u hu => by rw [Addr.add_lit]; exact hc j u hu) h1
   (by unfold maxLen; omega) hbytes hbase fun v' w' h2 h3 _ h5 => h v' w' h2 h3 h5

theorem own_mono {w : World} {base base' : Nat} {e : TypeId} {size n : Nat} {v : Value} {xs : List Value} (h : w.ownsRow base e size v n xs) (hb : base' ≤ base) : w.ownsRow base' e size v n xs := by
 refine ⟨h.1, ?_⟩
 rcases h.2 with h | ⟨g, cap, cur, hv, hg, r⟩
 ·exact .inl h
 ·exact .inr ⟨g, cap, cur, hv, by omega, r⟩
theorem own_form {w : World} {base : Nat} {e : TypeId} {size n : Nat} {v : Value} {xs : List Value} (h : w.ownsRow base e size v n xs) : ∃ A c, v = .slice A n c := by
 rcases h.2 with ⟨rfl, rfl⟩ | ⟨g, cap, cur, rfl, _⟩
 ·exact ⟨_, _, rfl⟩
 ·exact ⟨_, _, rfl⟩

theorem blk1 {w w1 : World} {a : Array Value} {ta : TypeId} (hb : Below (w.heap.size + 1) (w.alloc (.cells a ta)) w1) : Blk w1 w.heap.size ta a := (Blk.new w ta a).below hb (by omega)
theorem elInt : ElemT Tryz.prog 23 3 (.int .i64 0) 1 8 := ⟨Tryz.underlying23, info_parts (by kernel_rfl), rfl, by omega⟩
end Go.Proofs.YtkmcengmglgdeaaGreatDoor
