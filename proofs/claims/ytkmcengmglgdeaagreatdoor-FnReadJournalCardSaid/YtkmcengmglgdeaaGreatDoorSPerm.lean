/- Joined texts: Perm, PermW, Named, IntS, GraphV. -/
import Derived.Test.YtkmcengmglgdeaaGreatDoorSSt
import Derived.Test.YtkmcengmglgdeaaGreatDoorSDeed
import Derived.Test.YtkmcengmglgdeaaGreatDoorSCopy
import Derived.Test.YtkmcengmglgdeaaGreatDoorSPush
import Derived.RegionTactic
import Derived.ChangeAlike
/- Plain law: permutations of at most five numbers; a set and a code under them; no program in sight. -/
namespace Go.Proofs.YtkmcengmglgdeaaGreatDoor

def permOk (p : List Int) : Bool := decide (1 ≤ p.length ∧ p.length ≤ 5) && (p.all (fun x => decide (0 ≤ x ∧ x < p.length)) && decide p.Nodup)
/-- the numbers seen so far -/
def seenP (p : List Int) : Nat → Bool := fun j => decide ((j : Int) ∈ p)
/-- the members of a set under the first m names -/
def nameP (s : Nat) (p : List Int) (m : Nat) : Nat → Bool := fun j => (List.range m).any fun k => bit s k == 1 && p[k]? == some (j : Int)
def setN (p : List Int) (s : Nat) : Nat := mset (nameP s p 5) 5
def stepN (p : List Int) (x : Int) : Int := if x < 5 then p.getD x.toNat 0 else x
def codeN (p xs : List Int) : List Int := xs.map (stepN p)
/-- the code whose first k steps are named -/
def midN (p xs : List Int) (k : Nat) : List Int := (xs.take k).map (stepN p) ++ xs.drop k
def deedN (p : List Int) (d : DeedD) : DeedD := ⟨codeN p d.need, setN p d.on.toNat, setN p d.off.toNat, setN p d.flip.toNat⟩
def taskNamed (t : TaskD) (p : List Int) : TaskD := if taskOk t = true ∧ permOk p = true ∧ p.length = 5 then ⟨setN p t.start.toNat, codeN p t.goal, t.deeds.map (deedN p)⟩ else ⟨0, [], []⟩
end Go.Proofs.YtkmcengmglgdeaaGreatDoor

/- PermValid, the naming of sets and of codes, of the program and of the reference. -/
namespace Go.Proofs.YtkmcengmglgdeaaGreatDoor
set_option linter.unusedVariables false
set_option linter.unusedSimpArgs false
open Go.ChangeShapes Go.WideShapes Go.ChangeAt Go.RowKit
theorem l1Has_any (A : Option Addr) (n c : Nat) (xs : List Int) (x : Int) (w : World) (h : RdI .i64 w w.heap.size A n c xs) :
  Calls Tryz.prog 124 #[.slice A n c, .int .i64 x] w fun e w' => e = .returned (.bool (decide (x ∈ xs))) ∧ w = w' := by
 have hc := h.cap
 have hm := h.capMax
 unfold maxLen at hm
 have HL := Lib.hid h.len
 go_enter Tryz.func124, Tryz.ntmps124
 go_wp2
 go_loop [5] (fun i => ∃ k : Nat, k ≤ n ∧ i = .int .i64 k ∧ Hid (x ∉ xs.take k)) (fun i => n - (intOf i).toNat)
 case atStart => exact ⟨0, by omega, rfl, Lib.hid (by simp)⟩
 case round =>
  obtain ⟨k, hk, rfl, hno⟩ := hrel
  by_cases hlt : k < n
  ·obtain ⟨b, off, y, rfl, hb, hx, hw, hc⟩ := h.get hlt
   have HX := Lib.hid hx
   clear hx
   by_cases he : y = x
   ·have HM := Lib.hid (List.mem_of_getElem? HX.out)
    subst he
    go_wp2
    go_ret
    exact ⟨ret_bool (decide_eq_true HM.out).symm, rfl⟩
   ·have hne : (y == x) = false := by simpa using he
    have HN : Hid (x ∉ xs.take (k + 1)) := Lib.hid (by
     rw [take_succ' HX.out, List.mem_append]
     rintro (h | h)
     ·exact hno.out h
     ·exact he (List.mem_singleton.1 h).symm)
    clear he
    go_wp2
    go_round
    case rel => exact ⟨k + 1, by omega, by go_num, HN⟩
    case measure => simp [intOf]; omega
  ·have hkn : k = n := by omega
   have HF : Hid (x ∉ xs) := Lib.hid (by have := hno.out; rw [hkn, ← HL.out, List.take_length] at this; exact this)
   clear hkn
   go_wp2
   go_ret
   exact ⟨ret_bool (decide_eq_false HF.out).symm, rfl⟩
end Go.Proofs.YtkmcengmglgdeaaGreatDoor

/- Sets and codes under names, of the program and of the reference. -/
namespace Go.Proofs.YtkmcengmglgdeaaGreatDoor
set_option linter.unusedVariables false
set_option linter.unusedSimpArgs false
open Go.ChangeShapes Go.WideShapes Go.ChangeAt Go.RowKit
section
variable {w W W' : World} {L : List HRes}
theorem ints_set (xs : List Int) (k : Nat) (x : Int) : (ints xs).set k (.int .i64 x) = ints (xs.set k x) := by simp [ints, List.map_set]
/-- a store in a row of numbers -/
theorem St.storeI (h : St w W L) (i : Nat) {g n c : Nat} {xs : List Int} (hi : L[i]? = some (rInts (.slice (some ⟨g, 0, none⟩) n c) xs)) (hn : xs.length = n) (k : Nat) (x : Int) (hw : (Lit.int .i64 x).wf = true) :
  St w (W.setCell ⟨g, k, none⟩ (.int .i64 x)) (L.set i (rInts (.slice (some ⟨g, 0, none⟩) n c) (xs.set k x))) :=
 h.mod i hi fun F h1 _ => ⟨F, ⟨by
  have := (World.ownsRow.stored (hn ▸ h1.row : W.ownsRow 0 3 1 (.slice (some ⟨g, 0, none⟩) n c) n (Go.Proofs.YtkmcengmglgdeaaGreatDoor.ints xs)) k (.int .i64 x)).1
  rw [ints_set] at this
  rw [List.length_set, hn]; exact this, fun y hy => by
   rcases List.mem_or_eq_of_mem_set hy with e | e
   ·exact h1.wf y e
   ·subst e; exact hw, h1.foot⟩, fun b hb => .inl hb, (Only.refl F W).set (by rw [h1.foot]; simp [Value.ownBlock]) _⟩
theorem St.formI (h : St w W L) (i : Nat) {v : Value} {xs : List Int} (hi : L[i]? = some (rInts v xs)) {n : Nat} (hn : xs.length = n) (h0 : 0 < n) : ∃ g c, v = .slice (some ⟨g, 0, none⟩) n c := by
 obtain ⟨F, h1, -⟩ := h.get i hi
 subst hn
 rcases h1.row.2 with ⟨_, h2⟩ | ⟨g, cap, cur, hv, _⟩
 ·omega
 ·exact ⟨g, cap, hv⟩
theorem St.cellI (h : St w W L) (i : Nat) {g n c : Nat} {xs : List Int} (hi : L[i]? = some (rInts (.slice (some ⟨g, 0, none⟩) n c) xs)) (hn : xs.length = n) (k : Nat) (x : Int) (hx : xs[k]? = some x) : W.cell? ⟨g, k, none⟩ = some (.int .i64 x) ∧ W.frozen? ⟨g, k, none⟩ = false := by
 obtain ⟨F, h1, -⟩ := h.get i hi
 have hr : W.ownsRow 0 3 1 (.slice (some ⟨g, 0, none⟩) n c) n (Go.Proofs.YtkmcengmglgdeaaGreatDoor.ints xs) := hn ▸ h1.row
 refine ⟨?_, hr.frozenAt k⟩
 have hk := (List.getElem?_eq_some_iff.1 hx).1
 rw [hr.cellAt k (by omega)]
 simp [Go.Proofs.YtkmcengmglgdeaaGreatDoor.ints, hx]
end
end Go.Proofs.YtkmcengmglgdeaaGreatDoor

/- A row of numbers of the list St, read: with the name of its value at hand. No program in sight but for type numbers. -/
namespace Go.Proofs.YtkmcengmglgdeaaGreatDoor
theorem St.rdI' {w W : World} {L : List HRes} (h : St w W L) (k : Nat) {A : Option Addr} {n c : Nat} {xs : List Int} (hk : L[k]? = some (rInts (.slice A n c) xs)) : RdI .i64 W W.heap.size A n c xs := by
 obtain ⟨A', c', e, hr⟩ := h.rdI k hk
 simp only [Value.slice.injEq] at e
 obtain ⟨rfl, rfl, rfl⟩ := e
 exact hr
theorem Sn.rdI' {w W : World} {M : Nat → Option HRes} (h : Sn w W M) (k : Nat) {A : Option Addr} {n c : Nat} {xs : List Int} (hk : M k = some (rInts (.slice A n c) xs)) : RdI .i64 W W.heap.size A n c xs := by
 obtain ⟨A', c', e, hr⟩ := h.rdI k hk
 simp only [Value.slice.injEq] at e
 obtain ⟨rfl, rfl, rfl⟩ := e
 exact hr
end Go.Proofs.YtkmcengmglgdeaaGreatDoor

/- GraphValid of the program and of the reference, for every graph. (The first half stands in XGraph too, for the seat of round r1: never import both.) -/
namespace Go.Proofs.YtkmcengmglgdeaaGreatDoor
set_option linter.unusedVariables false
set_option linter.unusedSimpArgs false
open Go.ChangeShapes Go.WideShapes Go.ChangeAt Go.RowKit
/-! ### valid graphs -/
/-- the rows of a graph, as the program asks them: in range, without itself, in both directions -/
def rowOk (n : Nat) (k : Nat) (s : Int) : Bool := decide (0 ≤ s ∧ s < 2 ^ n) && !(bit s.toNat k == 1)
def graphOk (xs : List Int) : Bool :=
 decide (1 ≤ xs.length ∧ xs.length ≤ 9) && (List.range xs.length).all (fun k => rowOk xs.length k (xs.getD k 0)) &&
  (List.range xs.length).all (fun k => (List.range xs.length).all fun j => bit (xs.getD k 0).toNat j == bit (xs.getD j 0).toNat k)

theorem graphOk_size (xs : List Int) (h : ¬ (1 ≤ xs.length ∧ xs.length ≤ 9)) : graphOk xs = false := by
 unfold graphOk; rw [decide_eq_false h]; simp
theorem graphOk_row (xs : List Int) (k : Nat) (hk : k < xs.length) (h : rowOk xs.length k (xs.getD k 0) = false) : graphOk xs = false := by
 unfold graphOk
 have : ((List.range xs.length).all fun k => rowOk xs.length k (xs.getD k 0)) = false := by
  rw [List.all_eq_false]
  exact ⟨k, List.mem_range.2 hk, by rw [h]; simp⟩
 rw [this]; simp
theorem graphOk_pair (xs : List Int) (k j : Nat) (hk : k < xs.length) (hj : j < xs.length) (h : ¬ bit (xs.getD k 0).toNat j = bit (xs.getD j 0).toNat k) : graphOk xs = false := by
 unfold graphOk
 have : ((List.range xs.length).all fun k => (List.range xs.length).all fun j => bit (xs.getD k 0).toNat j == bit (xs.getD j 0).toNat k) = false := by
  rw [List.all_eq_false]
  refine ⟨k, List.mem_range.2 hk, ?_⟩
  simp only [Bool.not_eq_true]
  rw [List.all_eq_false]
  exact ⟨j, List.mem_range.2 hj, by simpa using h⟩
 rw [this]; simp
theorem graphOk_all (xs : List Int) (hn : 1 ≤ xs.length ∧ xs.length ≤ 9) (h1 : ∀ k, k < xs.length → rowOk xs.length k (xs.getD k 0) = true)
  (h2 : ∀ k, k < xs.length → ∀ j, j < xs.length → bit (xs.getD k 0).toNat j = bit (xs.getD j 0).toNat k) : graphOk xs = true := by
 unfold graphOk
 rw [decide_eq_true hn]
 simp only [Bool.true_and, Bool.and_eq_true, List.all_eq_true, List.mem_range]
 exact ⟨h1, fun k hk j hj => by simpa using h2 k hk j hj⟩

theorem graphValid_impl (A : Option Addr) (n c : Nat) (xs : List Int) (w : World) (h : RdI .i64 w w.heap.size A n c xs) :
  Calls Tryz.prog 137 #[.agg #[.slice A n c]] w fun e w' => e = .returned (.bool (graphOk xs)) ∧ Below w.heap.size w w' := by
 have hlen := h.len
 have hcap := h.cap
 have hmax := h.capMax
 unfold maxLen at hmax
 by_cases hn : 1 ≤ n ∧ n ≤ 9
 ·obtain ⟨hn1, hn9⟩ := hn
  obtain ⟨b, off, rfl, hb, hcell⟩ := h.at_ (by omega)
  have HC := Lib.hid hcell; clear hcell
  have HL := Lib.hid hlen; clear hlen
  have hw := wrap_pow n (by omega)
  have hp9 := pow_le_int n 9 hn9
  have hp1 : 1 ≤ (2 : Int) ^ n := Int.pow_pos (by omega)
  go_enter Tryz.func137, Tryz.ntmps137
  go_wp2
  go_loop [21] (fun i => ∃ k : Nat, k ≤ n ∧ i = .int .i64 k ∧ Hid (∀ j, j < k → rowOk n j (xs.getD j 0) = true)) (fun i => n - (intOf i).toNat)
  case atStart => exact ⟨0, by omega, rfl, Lib.hid (by omega)⟩
  case round =>
   obtain ⟨k, hk, rfl, hrows⟩ := hrel
   by_cases hlt : k < n
   ·obtain ⟨x, hx⟩ : ∃ x, xs[k]? = some x := ⟨xs[k]'(by rw [HL.out]; exact hlt), List.getElem?_eq_getElem _⟩
    have hc := HC.out k x hx
    have hwf := wf_i64 (h.wf x (List.mem_of_getElem? hx))
    obtain ⟨hwf1, hwf2⟩ := hwf
    have hxd : xs.getD k 0 = x := by rw [List.getD, hx]; rfl
    have HX := Lib.hid hxd
    clear hx hxd
    by_cases hx0 : x < 0
    ·have HF := Lib.hid (graphOk_row xs k (by rw [HL.out]; exact hlt) (by rw [HL.out, HX.out]; unfold rowOk; rw [decide_eq_false (by omega), Bool.false_and]))
     go_wp2
     go_ret
     exact ⟨ret_bool HF.out.symm, (Below.refl _ _).alloc (Nat.le_refl _) _⟩
    ·obtain ⟨m, rfl⟩ := Int.eq_ofNat_of_zero_le (by omega : 0 ≤ x)
     by_cases hx1 : (m : Int) < 2 ^ n
     ·have hbit := and_one m k (by omega)
      have hb2 := bit_lt m k
      by_cases hbb : bit m k = 1
      ·have HF := Lib.hid (graphOk_row xs k (by rw [HL.out]; exact hlt) (by rw [HL.out, HX.out]; unfold rowOk; rw [Int.toNat_natCast, hbb]; simp))
       rw [hbb] at hbit
       go_wp2
       go_ret
       exact ⟨ret_bool HF.out.symm, (Below.refl _ _).alloc (Nat.le_refl _) _⟩
      ·have hbb0 : bit m k = 0 := by omega
       rw [hbb0] at hbit
       have HR : Hid (rowOk n k (xs.getD k 0) = true) := Lib.hid (by rw [HX.out]; unfold rowOk; rw [Int.toNat_natCast, hbb0, decide_eq_true ⟨by omega, hx1⟩]; rfl)
       clear hbb0 hbb hb2
       go_wp2
       go_round
       case rel => exact ⟨k + 1, by omega, by go_num, Lib.hid fun j hj => by
        rcases Nat.lt_or_ge j k with h1 | h1
        ·exact hrows.out j h1
        ·obtain rfl : j = k := by omega
         exact HR.out⟩
       case measure => simp [intOf]; omega
     ·have HF := Lib.hid (graphOk_row xs k (by rw [HL.out]; exact hlt) (by rw [HL.out, HX.out]; unfold rowOk; rw [decide_eq_false (by omega), Bool.false_and]))
      go_wp2
      go_ret
      exact ⟨ret_bool HF.out.symm, (Below.refl _ _).alloc (Nat.le_refl _) _⟩
   ·obtain rfl : k = n := by omega
    have hrow1 := hrows.out
    have HM : Hid (∀ j, j < k → ∃ m : Nat, xs[j]? = some (m : Int) ∧ m < 512 ∧ w.cell? ⟨b, off + j, none⟩ = some (.int .i64 (m : Int)) ∧ (xs.getD j 0).toNat = m) := Lib.hid fun j hj => by
     have h1 := hrow1 j hj
     obtain ⟨x, hx⟩ : ∃ x, xs[j]? = some x := ⟨xs[j]'(by rw [HL.out]; exact hj), List.getElem?_eq_getElem _⟩
     have hxd : xs.getD j 0 = x := by rw [List.getD, hx]; rfl
     rw [hxd] at h1 ⊢
     unfold rowOk at h1
     simp only [Bool.and_eq_true, decide_eq_true_eq] at h1
     obtain ⟨⟨h0, h2⟩, -⟩ := h1
     obtain ⟨m, rfl⟩ := Int.eq_ofNat_of_zero_le h0
     exact ⟨m, hx, by omega, HC.out j _ hx, Int.toNat_natCast m⟩
    have HRow : Hid (∀ j, j < k → rowOk k j (xs.getD j 0) = true) := Lib.hid hrow1
    clear hrow1 hrows hw hp9 hp1
    go_wp2
    go_loopw [45] (fun i wr => ∃ a q : Nat, a ≤ k ∧ i = .int .i64 a ∧ Hid (∀ a', a' < a → ∀ j, j < k → bit (xs.getD a' 0).toNat j = bit (xs.getD j 0).toNat a') ∧ wr = (w.alloc (Obj.cells #[Value.slice (some ⟨b, off, none⟩) k c] 94)).drewN q) (fun i _ => k - (intOf i).toNat)
    case atStart => exact ⟨0, 0, by omega, rfl, Lib.hid (by omega), rfl⟩
    case round =>
     obtain ⟨a, q, ha, rfl, hpre, rfl⟩ := hrel
     by_cases hak : a < k
     ·obtain ⟨x, hx, hx9, hxc, hxd⟩ := HM.out a hak
      have HXD := Lib.hid hxd
      clear hx hxd
      go_wp2
      go_loopw [51] (fun i wr => ∃ j q : Nat, j ≤ k ∧ i = .int .i64 j ∧ Hid (∀ j', j' < j → bit x j' = bit (xs.getD j' 0).toNat a) ∧ wr = (w.alloc (Obj.cells #[Value.slice (some ⟨b, off, none⟩) k c] 94)).drewN q) (fun i _ => k - (intOf i).toNat)
      case atStart => exact ⟨0, q, by omega, rfl, Lib.hid (by omega), rfl⟩
      case round =>
       obtain ⟨j, q', hj, rfl, hpre', rfl⟩ := hrel
       by_cases hjk : j < k
       ·obtain ⟨y, hy, hy9, hyc, hyd⟩ := HM.out j hjk
        have HYD := Lib.hid hyd
        have hb1 := and_one x j (by omega)
        have hb2 := and_one y a (by omega)
        have hl1 := bit_lt x j
        have hl2 := bit_lt y a
        clear hy hyd
        by_cases heq : bit x j = bit y a
        ·have HEQ := Lib.hid heq
         rw [heq] at hb1
         clear heq
         go_wp2
         go_quiet (fail)
         go_wp2
         go_roundw
         case rel => exact ⟨j + 1, _, by omega, by go_num, Lib.hid fun j' hj' => by
          rcases Nat.lt_or_ge j' j with h1 | h1
          ·exact hpre'.out j' h1
          ·obtain rfl : j' = j := by omega
           rw [HYD.out]; exact HEQ.out, rfl⟩
         case measure => simp [intOf]; omega
        ·have HF := Lib.hid (graphOk_pair xs a j (by rw [HL.out]; exact hak) (by rw [HL.out]; exact hjk) (by rw [HXD.out, HYD.out]; exact heq))
         have hne : (((bit x j : Nat) : Int) != ((bit y a : Nat) : Int)) = true := by rw [bne_iff_ne]; omega
         clear heq
         go_wp2
         go_quiet (fail)
         go_wp2
         go_ret
         exact ⟨ret_bool HF.out.symm, below_drewN (below_drewN ((Below.refl _ _).alloc (Nat.le_refl _) _) _) _⟩
       ·have hjk' : j = k := by omega
        have HJ := Lib.hid hjk'
        clear hjk'
        go_wp2
        go_roundw
        case rel => exact ⟨a + 1, _, by omega, by go_num, Lib.hid fun a' ha' j' hj' => by
          rcases Nat.lt_or_ge a' a with h1 | h1
          ·exact hpre.out a' h1 j' hj'
          ·obtain rfl : a' = a := by omega
           rw [HXD.out]; exact hpre'.out j' (by rw [HJ.out]; exact hj'), rfl⟩
        case measure => simp [intOf]; omega
     ·have hak' : a = k := by omega
      have HF := Lib.hid (graphOk_all xs (by rw [HL.out]; exact ⟨hn1, hn9⟩) (by rw [HL.out]; exact HRow.out) (by rw [HL.out]; intro a' h1 j hj; exact hpre.out a' (by omega) j hj))
      clear hak'
      go_wp2
      go_ret
      exact ⟨ret_bool HF.out.symm, below_drewN ((Below.refl _ _).alloc (Nat.le_refl _) _) _⟩
 ·have HF := Lib.hid (graphOk_size xs (by rw [hlen]; exact hn))
  go_enter Tryz.func137, Tryz.ntmps137
  go_wp2
  all_goals first | (exfalso; omega) | go_ret
  all_goals exact ⟨ret_bool HF.out.symm, (Below.refl _ _).alloc (Nat.le_refl _) _⟩

end Go.Proofs.YtkmcengmglgdeaaGreatDoor
