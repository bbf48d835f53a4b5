/- Plain lemmas on bits of nonnegative numbers and on endings: what the walks of this seat lean on. No condition. -/
import Derived.Test.YtfgebdioffeliaaRows
import Derived.WalkKit
import Derived.ProofKit
import Derived.OpenShut
import Derived.Below
import Derived.Deep.QuietTactic
import Derived.BigQuiet
import Derived.Lib.Hide
import Derived.Laws.BitsAllLaws
import Derived.Laws.BitsLemmas
namespace Go.Proofs.Ytfgebdioffeliaa
open Go.ChangeShapes Go.WideShapes Go.ChangeAt Go.RowKit

theorem ofInt_i64 (a : Nat) (ha : a < 9223372036854775808) : (BitVec.ofInt 64 (a : Int)).toNat = a := by
  rw [BitVec.ofInt_natCast, BitVec.toNat_ofNat]; exact Nat.mod_eq_of_lt (by omega)
theorem i64_and_nat (a b : Nat) (ha : a < 9223372036854775808) (hb : b < 9223372036854775808) : bits .and .i64 (a : Int) (b : Int) = ((a &&& b : Nat) : Int) := by
  have hx : a &&& b < 2 ^ 63 := Nat.and_lt_two_pow _ (by omega)
  show IntKind.i64.wrap ((BitVec.ofInt 64 (a : Int) &&& BitVec.ofInt 64 (b : Int)).toNat : Int) = _
  rw [BitVec.toNat_and, ofInt_i64 a ha, ofInt_i64 b hb, IntKind.wrap_i64]
  omega
theorem i64_or_nat (a b : Nat) (ha : a < 9223372036854775808) (hb : b < 9223372036854775808) : bits .or .i64 (a : Int) (b : Int) = ((a ||| b : Nat) : Int) := by
  have hx : a ||| b < 2 ^ 63 := Nat.or_lt_two_pow (by omega) (by omega)
  show IntKind.i64.wrap ((BitVec.ofInt 64 (a : Int) ||| BitVec.ofInt 64 (b : Int)).toNat : Int) = _
  rw [BitVec.toNat_or, ofInt_i64 a ha, ofInt_i64 b hb, IntKind.wrap_i64]
  omega
theorem i64_xor_nat (a b : Nat) (ha : a < 9223372036854775808) (hb : b < 9223372036854775808) : bits .xor .i64 (a : Int) (b : Int) = ((a ^^^ b : Nat) : Int) := by
  have hx : a ^^^ b < 2 ^ 63 := Nat.xor_lt_two_pow (by omega) (by omega)
  show IntKind.i64.wrap ((BitVec.ofInt 64 (a : Int) ^^^ BitVec.ofInt 64 (b : Int)).toNat : Int) = _
  rw [BitVec.toNat_xor, ofInt_i64 a ha, ofInt_i64 b hb, IntKind.wrap_i64]
  omega
theorem i64_andNot_nat (a b : Nat) (ha : a < 9223372036854775808) (hb : b < 9223372036854775808) : bits .andNot .i64 (a : Int) (b : Int) = ((a - (a &&& b) : Nat) : Int) := by
  have hx : a &&& b ≤ a := Nat.and_le_left
  have key : (BitVec.ofInt 64 (a : Int) &&& ~~~ BitVec.ofInt 64 (b : Int)).toNat = a - (a &&& b) := by
    have e : BitVec.ofInt 64 (a : Int) &&& ~~~ BitVec.ofInt 64 (b : Int) = BitVec.ofInt 64 (a : Int) - (BitVec.ofInt 64 (a : Int) &&& BitVec.ofInt 64 (b : Int)) := by
      generalize BitVec.ofInt 64 (a : Int) = x
      generalize BitVec.ofInt 64 (b : Int) = y
      rw [BitVec.sub_eq_add_neg]
      have h1 : x = (x &&& ~~~ y) + (x &&& y) := by
        rw [BitVec.add_eq_or_of_and_eq_zero]
        · ext i; simp; cases x[i] <;> cases y[i] <;> rfl
        · ext i; simp; cases x[i] <;> cases y[i] <;> simp
      conv => rhs; lhs; rw [h1]
      rw [BitVec.add_assoc, BitVec.add_right_neg, BitVec.add_zero]
    rw [e, BitVec.toNat_sub_of_le, BitVec.toNat_and, ofInt_i64 a ha, ofInt_i64 b hb]
    rw [BitVec.le_def, BitVec.toNat_and]; exact Nat.and_le_left
  show IntKind.i64.wrap ((BitVec.ofInt 64 (a : Int) &&& ~~~ BitVec.ofInt 64 (b : Int)).toNat : Int) = _
  rw [key, IntKind.wrap_i64]
  omega
theorem ret_int {k : IntKind} {a b : Int} (h : a = b) : Ending.returned (.int k a) = .returned (.int k b) := by rw [h]
theorem ret_bool {a b : Bool} (h : a = b) : Ending.returned (.bool a) = .returned (.bool b) := by rw [h]
theorem toNat_cast {a : Int} (h : 0 ≤ a) : ((a.toNat : Nat) : Int) = a := Int.toNat_of_nonneg h

/-! ### Slices of numbers that are read -/
/-- in w, below block B, the slice at A with n elements (capacity c) reads as these numbers, which fit their kind -/
structure RdI (k : IntKind) (w : World) (B : Nat) (A : Option Addr) (n c : Nat) (xs : List Int) : Prop where
  len : xs.length = n
  cap : n ≤ c
  capMax : c ≤ maxLen
  wf : ∀ x ∈ xs, (Lit.int k x).wf = true
  at_ : 0 < n → ∃ b off, A = some ⟨b, off, none⟩ ∧ b < B ∧ ∀ i x, xs[i]? = some x → w.cell? ⟨b, off + i, none⟩ = some (.int k x)

section
variable {k : IntKind} {w w' : World} {B : Nat} {A : Option Addr} {n c : Nat} {xs : List Int}
theorem RdI.keep (h : RdI k w B A n c xs) (hk : ∀ b o, b < B → w'.cell? ⟨b, o, none⟩ = w.cell? ⟨b, o, none⟩) : RdI k w' B A n c xs :=
  ⟨h.len, h.cap, h.capMax, h.wf, fun hn => by
    obtain ⟨b, off, e, hb, hc⟩ := h.at_ hn
    exact ⟨b, off, e, hb, fun i x hx => (hk b _ hb).trans (hc i x hx)⟩⟩
theorem RdI.below (h : RdI k w B A n c xs) (hb : Below B w w') : RdI k w' B A n c xs :=
  h.keep fun b o hlt => hb.cell (p := ⟨b, o, none⟩) hlt
theorem RdI.more {B' : Nat} (h : RdI k w B A n c xs) (hB : B ≤ B') : RdI k w B' A n c xs :=
  ⟨h.len, h.cap, h.capMax, h.wf, fun hn => by
    obtain ⟨b, off, e, hb, hc⟩ := h.at_ hn
    exact ⟨b, off, e, by omega, hc⟩⟩
/-- the element at i, where there is one -/
theorem RdI.get (h : RdI k w B A n c xs) {i : Nat} (hi : i < n) : ∃ b off x, A = some ⟨b, off, none⟩ ∧ b < B ∧ xs[i]? = some x ∧ (Lit.int k x).wf = true ∧ w.cell? ⟨b, off + i, none⟩ = some (.int k x) := by
  obtain ⟨b, off, e, hb, hc⟩ := h.at_ (by omega)
  have hl : i < xs.length := by rw [h.len]; exact hi
  exact ⟨b, off, xs[i], e, hb, List.getElem?_eq_getElem hl, h.wf _ (List.getElem_mem hl), hc i _ (List.getElem?_eq_getElem hl)⟩
theorem RdI.nil_ (k : IntKind) (w : World) (B : Nat) : RdI k w B none 0 0 [] := ⟨rfl, Nat.le_refl _, by unfold maxLen; omega, by simp, fun h => absurd h (by omega)⟩
theorem RdI.of_own {base : Nat} {e : TypeId} {v : Value} (h : w.ownsRow base e 1 v n (xs.map (.int k))) (hw : ∀ x ∈ xs, (Lit.int k x).wf = true) :
    ∃ A c, v = .slice A n c ∧ RdI k w w.heap.size A n c xs := by
  obtain ⟨hl, h2⟩ := h
  rcases h2 with ⟨rfl, rfl⟩ | ⟨g, cap, cur, rfl, hb, hh, h3, h4, h5, h6⟩
  · exact ⟨none, 0, rfl, by simpa using hl, Nat.le_refl _, by unfold maxLen; omega, hw, fun h => absurd h (by omega)⟩
  · refine ⟨_, _, rfl, by simpa using hl, h3, h4, hw, fun _ => ⟨g, 0, rfl, (Array.getElem?_eq_some_iff.1 hh).1, fun i x hx => ?_⟩⟩
    have hc : w.cell? ⟨g, 0 + i, none⟩ = cur[i]? := by rw [Nat.zero_add]; exact cell_of_row w g i cur e (0, 0) hh
    rw [hc]
    have h7 : (cur.toList.take (n * 1))[i]? = some (.int k x) := by rw [h6]; simp [hx]
    rw [List.getElem?_take] at h7
    split at h7
    · simpa using h7
    · cases h7
theorem rdI_own {base : Nat} {e : TypeId} (h : w.ownsRow base e 1 (.slice A n c) n (xs.map (.int k))) (hw : ∀ x ∈ xs, (Lit.int k x).wf = true) : RdI k w w.heap.size A n c xs := by
  obtain ⟨A', c', e, hr⟩ := RdI.of_own h hw
  simp only [Value.slice.injEq] at e
  obtain ⟨rfl, -, rfl⟩ := e
  exact hr
end
theorem bcells {B : Nat} {w w' : World} (h : Below B w w') : ∀ b o, b < B → w'.cell? ⟨b, o, none⟩ = w.cell? ⟨b, o, none⟩ := fun b o hlt => h.cell (p := ⟨b, o, none⟩) hlt

theorem wf_i64 {x : Int} (h : (Lit.int .i64 x).wf = true) : -9223372036854775808 ≤ x ∧ x ≤ 9223372036854775807 := by
  simpa [Lit.wf, IntKind.min, IntKind.max, IntKind.signed, IntKind.bits] using h
theorem wf_u8 {x : Int} (h : (Lit.int .u8 x).wf = true) : 0 ≤ x ∧ x ≤ 255 := by
  simpa [Lit.wf, IntKind.min, IntKind.max, IntKind.signed, IntKind.bits] using h
theorem wf_i64_mk {x : Int} (h : -9223372036854775808 ≤ x ∧ x ≤ 9223372036854775807) : (Lit.int .i64 x).wf = true := by
  simpa [Lit.wf, IntKind.min, IntKind.max, IntKind.signed, IntKind.bits] using h

/-- a slice of numbers that came in -/
theorem rdI_of_came {P : Program} {H : Type} {enc : TypeId × Value → H} {W : World} {base : Nat} {spare : Nat → Bool} {held : Bool} {fuel : Nat} {k : IntKind} {t e : TypeId} {A : Option Addr} {n c : Nat} {x : DataW H × List MemPlace}
    (ht : P.underlying t = some (.slice e)) (he : P.underlying e = some (.int k)) (hc : P.cellsOf e = 1) (h : DataW.trod enc P W base spare held fuel t (Value.slice A n c).cells.toList = some x) :
    ∃ xs, RdI k W W.heap.size A n c xs := by
  rcases open_ints ht he hc h with ⟨hcs, _⟩ | ⟨a, l, cc, zs, hcs, _, hl, hm, hz, _, hcell, hwz⟩
  · simp [Value.cells] at hcs
    obtain ⟨rfl, rfl, rfl⟩ := hcs
    exact ⟨[], RdI.nil_ _ _ _⟩
  · simp [Value.cells] at hcs
    obtain ⟨rfl, rfl, rfl⟩ := hcs
    have hlz : n ≤ zs.length := by rw [hz]; split <;> omega
    refine ⟨zs.take n, by simp; omega, hl, hm, fun y hy => hwz y (List.mem_of_mem_take hy), fun hn => ?_⟩
    obtain ⟨b, off, rfl, hat⟩ := ints_at hcell (by omega)
    have h0 := hat 0 (by omega)
    refine ⟨b, off, rfl, World.block_lt_of_cell? W _ h0, fun i y hy => ?_⟩
    rw [List.getElem?_take] at hy
    split at hy
    · rename_i hi
      rw [hat i (by omega), List.getD, hy]; rfl
    · cases hy
end Go.Proofs.Ytfgebdioffeliaa
