/- Joined texts: Graph, Alive. -/
import Derived.Test.YtkimgdfcgfhibaaDoorSDraw
import Derived.Test.YtkimgdfcgfhibaaDoorSCopy
import Derived.RegionTactic
import Derived.ChangeAlike
import Derived.Maps.AppendAt
/- countBits of the program: how many bits of a number are 1. -/
namespace Go.Proofs.YtkimgdfcgfhibaaDoor
open Go.ChangeShapes Go.WideShapes Go.ChangeAt Go.RowKit

def cntF : Nat → Nat → Nat
  | 0, _ => 0
  | f + 1, n => if n = 0 then 0 else 1 + cntF f (n &&& (n - 1))
def popc (n : Nat) : Nat := cntF n n
theorem cntF_enough (f : Nat) : ∀ f' n, n ≤ f → n ≤ f' → cntF f n = cntF f' n := by
  induction f with
  | zero => intro f' n h _; obtain rfl : n = 0 := by omega
            cases f' <;> simp [cntF]
  | succ f ih =>
    intro f' n h h'
    by_cases hn : n = 0
    · subst hn; cases f' <;> simp [cntF]
    · cases f' with
      | zero => omega
      | succ f' =>
        have hle : n &&& (n - 1) ≤ n - 1 := Nat.and_le_right
        rw [cntF, cntF, if_neg hn, if_neg hn, ih f' _ (by omega) (by omega)]
theorem popc_zero : popc 0 = 0 := rfl
theorem popc_step (n : Nat) (h : 0 < n) : popc n = 1 + popc (n &&& (n - 1)) := by
  unfold popc
  cases n with
  | zero => omega
  | succ m =>
    have hle : (m + 1) &&& (m + 1 - 1) ≤ m + 1 - 1 := Nat.and_le_right
    rw [cntF, if_neg (by omega)]
    rw [cntF_enough m _ _ (by omega) (Nat.le_refl _)]
theorem countBits_nat (n : Nat) (hn : n < 4611686018427387904) (w : World) :
    Calls Tryd.prog 68 #[.int .i64 n] w fun e w' => e = .returned (.int .i64 (popc n : Nat)) ∧ w = w' := by
  go_enter Tryd.func68, Tryd.ntmps68
  go_wp2
  go_loop [0, 3] (fun s p => ∃ m k : Nat, m ≤ n ∧ k + popc m = popc n ∧ k + m ≤ n ∧ s = .int .i64 m ∧ p = .int .i64 k) (fun s _ => (intOf s).toNat)
  case atStart => exact ⟨n, 0, Nat.le_refl _, by omega, by omega, rfl, rfl⟩
  case round =>
    obtain ⟨m, k, hm, hk, hkm, rfl, rfl⟩ := hrel
    have HK := Lib.hid hk; clear hk
    by_cases hz : 0 < m
    · have hle : m &&& (m - 1) ≤ m - 1 := Nat.and_le_right
      have hx := i64_and_nat m (m - 1) (by omega) (by omega)
      have hs : ((m - 1 : Nat) : Int) = (m : Int) - 1 := by omega
      rw [hs] at hx
      have HS := Lib.hid (popc_step m hz)
      generalize m &&& (m - 1) = m' at *
      clear hs
      have hne : ((m : Int) != 0) = true := by rw [bne_iff_ne]; omega
      go_wp2
      go_round
      case rel => exact ⟨m', k + 1, by omega, by have := HS.out; have := HK.out; omega, by omega, rfl, by go_num⟩
      case measure => simp [intOf]; omega
    · obtain rfl : m = 0 := by omega
      go_wp2
      go_ret
      refine ⟨ret_int ?_, rfl⟩
      have := HK.out
      rw [popc_zero] at this
      show (k : Int) = _
      omega
theorem countBits_any (n : Int) (h0 : 0 ≤ n) (hn : n < 4611686018427387904) (w : World) :
    Calls Tryd.prog 68 #[.int .i64 n] w fun e w' => e = .returned (.int .i64 (popc n.toNat : Nat)) ∧ w = w' := by
  have h := countBits_nat n.toNat (by omega) w
  rwa [toNat_cast h0] at h

end Go.Proofs.YtkimgdfcgfhibaaDoor

/- LinesMany, joinPoints, GridOf at (2, 2), and alive, which is true. -/
namespace Go.Proofs.YtkimgdfcgfhibaaDoor
open Go.ChangeShapes Go.WideShapes Go.ChangeAt Go.RowKit

set_option maxRecDepth 100000 in
theorem joinPoints_walk (g n c a b x y : Nat) (hx : x < 512) (hy : y < 512) (ha : a < n) (hb : b < n) (hne : a ≠ b) (hn : n ≤ 9) (w : World)
    (ca : w.cell? ⟨g, a, none⟩ = some (.int .i64 x)) (cb : w.cell? ⟨g, b, none⟩ = some (.int .i64 y)) (fa : w.frozen? ⟨g, a, none⟩ = false) (fb : w.frozen? ⟨g, b, none⟩ = false) :
    Calls Tryd.prog 69 #[.slice (some ⟨g, 0, none⟩) n c, .int .i64 a, .int .i64 b] w fun e w' => e = .returned (.tuple #[]) ∧
      Same w' ((w.setCell ⟨g, a, none⟩ (.int .i64 (x ||| 2 ^ b : Nat))).setCell ⟨g, b, none⟩ (.int .i64 (y ||| 2 ^ a : Nat))) := by
  have hpa := Nat.pow_le_pow_right (show 0 < 2 by omega) (show a ≤ 9 by omega)
  have hpb := Nat.pow_le_pow_right (show 0 < 2 by omega) (show b ≤ 9 by omega)
  have o1 := i64_or_nat x (2 ^ b) (by omega) (by omega)
  have o2 := i64_or_nat y (2 ^ a) (by omega) (by omega)
  have w1 := wrap_pow b (by omega)
  have w2 := wrap_pow a (by omega)
  have e1 : (((2 : Nat) ^ b : Nat) : Int) = 2 ^ b := by simp
  have e2 : (((2 : Nat) ^ a : Nat) : Int) = 2 ^ a := by simp
  rw [e1] at o1
  rw [e2] at o2
  generalize x ||| 2 ^ b = x' at *
  generalize y ||| 2 ^ a = y' at *
  clear hpa hpb e1 e2 hx hy
  have cb' : ∀ v, (w.setCell ⟨g, a, none⟩ v).cell? ⟨g, b, none⟩ = some (.int .i64 y) := fun v => by
    rw [World.cell?_setCell_other _ _ _ _ (fun e => hne (congrArg Addr.off e))]; exact cb
  have fb' : ∀ v, (w.setCell ⟨g, a, none⟩ v).frozen? ⟨g, b, none⟩ = false := fun v => by
    rw [World.frozen?_setCell]; exact fb
  go_enter Tryd.func69, Tryd.ntmps69
  go_wp2
  go_region
  all_goals go_wp2
  all_goals go_region
  all_goals (go_end0; exact ⟨rfl, rfl, rfl, rfl, rfl⟩)
theorem joinPoints_blk (g n c a b x y : Nat) (cs : Array Value) (hx : x < 512) (hy : y < 512) (ha : a < n) (hb : b < n) (hne : a ≠ b) (hn : n ≤ 9) (w : World) (t : TypeId) (hk : Blk w g t cs)
    (ca : cs[a]? = some (.int .i64 x)) (cb : cs[b]? = some (.int .i64 y)) :
    Calls Tryd.prog 69 #[.slice (some ⟨g, 0, none⟩) n c, .int .i64 a, .int .i64 b] w fun e w' => e = .returned (.tuple #[]) ∧
      Blk w' g t ((cs.setIfInBounds a (.int .i64 (x ||| 2 ^ b : Nat))).setIfInBounds b (.int .i64 (y ||| 2 ^ a : Nat))) ∧ w.grownBy w' (some g) :=
  (joinPoints_walk g n c a b x y hx hy ha hb hne hn w ((hk.cell a).trans ca) ((hk.cell b).trans cb) (hk.frozen a) (hk.frozen b)).mono fun _ _ ⟨he, hs⟩ =>
    ⟨he, hs.blk ((hk.set_ a _).set_ b _), hs.grown (grown_set (only_set w g a _) b _)⟩

def i4 (a b c d : Int) : Array Value := #[.int .i64 a, .int .i64 b, .int .i64 c, .int .i64 d]
theorem gridOf_two (w : World) :
    Calls Tryd.prog 36 #[.int .i64 2, .int .i64 2] w fun e w' => (∃ g, e = .returned (.agg #[.slice (some ⟨g, 0, none⟩) 4 4]) ∧ Blk w' g 3 (i4 6 9 9 6)) ∧ Below w.heap.size w w' := by
  have hmk : ∀ W, (Instr.makeSlice 23 (.int .i64 4) (.int .i64 4)).run Tryd.prog W = .ok (.slice (some ⟨W.heap.size, 0, none⟩) 4 4) (W.alloc (.cells #[.int .i64 0, .int .i64 0, .int .i64 0, .int .i64 0] 3)) := fun _ => by kernel_rfl
  go_enter Tryd.func36, Tryd.ntmps36
  go_wp2
  go_loopw [35] (fun i wr => Below w.heap.size w wr ∧ Blk wr w.heap.size 57 #[.slice none 0 0] ∧ ((i = .int .i64 0 ∧ Blk wr (w.heap.size + 1) 3 (i4 0 0 0 0)) ∨ (i = .int .i64 1 ∧ Blk wr (w.heap.size + 1) 3 (i4 6 9 1 2)) ∨ (i = .int .i64 2 ∧ Blk wr (w.heap.size + 1) 3 (i4 6 9 9 6)))) (fun i _ => 2 - (intOf i).toNat)
  case atStart => exact ⟨((Below.refl _ _).alloc (Nat.le_refl _) _).alloc (by simp) _, (Blk.new _ _ _).alloc _, .inl ⟨rfl, by have := Blk.new (w.alloc (Obj.cells #[Value.slice none 0 0] 57)) 3 (i4 0 0 0 0); rw [World.size_alloc] at this; exact this⟩⟩
  case round =>
    obtain ⟨hb, hr, ⟨rfl, hk⟩ | ⟨rfl, hk⟩ | ⟨rfl, hk⟩⟩ := hrel
    · go_wp2
      go_loopw [39] (fun i wr => Below w.heap.size w wr ∧ Blk wr w.heap.size 57 #[.slice none 0 0] ∧ ((i = .int .i64 0 ∧ Blk wr (w.heap.size + 1) 3 (i4 0 0 0 0)) ∨ (i = .int .i64 1 ∧ Blk wr (w.heap.size + 1) 3 (i4 6 1 1 0)) ∨ (i = .int .i64 2 ∧ Blk wr (w.heap.size + 1) 3 (i4 6 9 1 2)))) (fun i _ => 2 - (intOf i).toNat)
      case atStart => exact ⟨hb, hr, .inl ⟨rfl, hk⟩⟩
      case round =>
        obtain ⟨hb, hr, ⟨rfl, hk⟩ | ⟨rfl, hk⟩ | ⟨rfl, hk⟩⟩ := hrel
        · go_wp2_with fail
          refine (joinPoints_blk (w.heap.size + 1) 4 4 0 1 0 0 _ (by omega) (by omega) (by omega) (by omega) (by omega) (by omega) _ _ hk rfl rfl).mono ?_
          rintro e w1 ⟨rfl, hk1, hg1⟩
          have hr1 := hr.grown hg1 (by simp)
          have hb1 := hb.grown hg1 hb.size (fun k hk => by cases hk; omega)
          go_wp2_with fail
          refine (joinPoints_blk (w.heap.size + 1) 4 4 0 2 2 0 _ (by omega) (by omega) (by omega) (by omega) (by omega) (by omega) _ _ hk1 rfl rfl).mono ?_
          rintro e w2 ⟨rfl, hk2, hg2⟩
          have hr2 := hr1.grown hg2 (by simp)
          have hb2 := hb1.grown hg2 hb1.size (fun k hk => by cases hk; omega)
          go_wp2
          go_roundw
          case rel => exact ⟨hb2, hr2, .inr (.inl ⟨rfl, hk2⟩)⟩
          case measure => simp [intOf]
        · go_wp2_with fail
          refine (joinPoints_blk (w.heap.size + 1) 4 4 1 3 1 0 _ (by omega) (by omega) (by omega) (by omega) (by omega) (by omega) _ _ hk rfl rfl).mono ?_
          rintro e w1 ⟨rfl, hk1, hg1⟩
          have hr1 := hr.grown hg1 (by simp)
          have hb1 := hb.grown hg1 hb.size (fun k hk => by cases hk; omega)
          go_wp2
          go_roundw
          case rel => exact ⟨hb1, hr1, .inr (.inr ⟨rfl, hk1⟩)⟩
          case measure => simp [intOf]
        · go_wp2
          go_roundw
          case rel => exact ⟨hb, hr, .inr (.inl ⟨rfl, hk⟩)⟩
          case measure => simp [intOf]
    · go_wp2
      go_loopw [39] (fun i wr => Below w.heap.size w wr ∧ Blk wr w.heap.size 57 #[.slice none 0 0] ∧ ((i = .int .i64 0 ∧ Blk wr (w.heap.size + 1) 3 (i4 6 9 1 2)) ∨ (i = .int .i64 1 ∧ Blk wr (w.heap.size + 1) 3 (i4 6 9 9 6)) ∨ (i = .int .i64 2 ∧ Blk wr (w.heap.size + 1) 3 (i4 6 9 9 6)))) (fun i _ => 2 - (intOf i).toNat)
      case atStart => exact ⟨hb, hr, .inl ⟨rfl, hk⟩⟩
      case round =>
        obtain ⟨hb, hr, ⟨rfl, hk⟩ | ⟨rfl, hk⟩ | ⟨rfl, hk⟩⟩ := hrel
        · go_wp2_with fail
          refine (joinPoints_blk (w.heap.size + 1) 4 4 2 3 1 2 _ (by omega) (by omega) (by omega) (by omega) (by omega) (by omega) _ _ hk rfl rfl).mono ?_
          rintro e w1 ⟨rfl, hk1, hg1⟩
          have hr1 := hr.grown hg1 (by simp)
          have hb1 := hb.grown hg1 hb.size (fun k hk => by cases hk; omega)
          go_wp2
          go_roundw
          case rel => exact ⟨hb1, hr1, .inr (.inl ⟨rfl, hk1⟩)⟩
          case measure => simp [intOf]
        · go_wp2
          go_roundw
          case rel => exact ⟨hb, hr, .inr (.inr ⟨rfl, hk⟩)⟩
          case measure => simp [intOf]
        · go_wp2
          go_roundw
          case rel => exact ⟨hb, hr, .inr (.inr ⟨rfl, hk⟩)⟩
          case measure => simp [intOf]
    · have c0 : wr.cell? ⟨w.heap.size, 0, none⟩ = some (.slice none 0 0) := hr.cell 0
      have f0 : wr.frozen? ⟨w.heap.size, 0, none⟩ = false := hr.frozen 0
      go_wp2
      exact bodyPost_ret (v := .agg #[.slice (some ⟨w.heap.size + 1, 0, none⟩) 4 4]) (by simp [results, Tryd.results36, go_sem, c0]) rfl ⟨⟨_, rfl, hk.far (by simp) _⟩, hb.setCell (by simp) _⟩

theorem linesMany_four (g : Nat) (w : World) (hg : g < w.heap.size) (hk : Blk w g 3 (i4 6 9 9 6)) :
    Calls Tryd.prog 35 #[.agg #[.slice (some ⟨g, 0, none⟩) 4 4]] w fun e w' => e = .returned (.int .i64 4) ∧ Below w.heap.size w w' := by
  have hrd : ∀ W, W.heap[g]? = w.heap[g]? → g < W.heap.size → RdI .i64 W W.heap.size (some ⟨g, 0, none⟩) 4 4 [6, 9, 9, 6] := fun W hW hlt => ⟨rfl, by omega, by unfold maxLen; omega, by decide, fun _ => ⟨g, 0, rfl, hlt, fun i x hx => by
    have hb : Blk W g 3 (i4 6 9 9 6) := hW.trans hk
    rw [Nat.zero_add, hb.cell i]
    rcases i with _ | _ | _ | _ | i
    · cases hx; rfl
    · cases hx; rfl
    · cases hx; rfl
    · cases hx; rfl
    · simp at hx⟩⟩
  have HRD := Lib.hid hrd; clear hrd
  go_enter Tryd.func35, Tryd.ntmps35
  go_wp2_with fail
  refine (graphValid_impl _ 4 4 [6, 9, 9, 6] _ (HRD.out _ (Below.heap_alloc _ _ _ hg) (by simp; omega))).mono ?_
  rintro e w1 ⟨rfl, hb1⟩
  have hgo : graphOk [6, 9, 9, 6] = true := by decide
  rw [hgo]
  have hbl : Below w.heap.size w w1 := ((Below.refl _ _).alloc (Nat.le_refl _) _).trans (hb1.mono (by simp))
  have hk1 : Blk w1 g 3 (i4 6 9 9 6) := hk.below hbl hg
  have hr1 : w1.cell? ⟨w.heap.size, 0, none⟩ = some (.slice (some ⟨g, 0, none⟩) 4 4) := by
    rw [hb1.cell (p := ⟨w.heap.size, 0, none⟩) (by simp)]; exact (Blk.new _ _ _).cell 0
  have q0 : w1.cell? ⟨g, 0, none⟩ = some (.int .i64 6) := hk1.cell 0
  have q1 : w1.cell? ⟨g, 1, none⟩ = some (.int .i64 9) := hk1.cell 1
  have q2 : w1.cell? ⟨g, 2, none⟩ = some (.int .i64 9) := hk1.cell 2
  have q3 : w1.cell? ⟨g, 3, none⟩ = some (.int .i64 6) := hk1.cell 3
  go_wp2
  go_loop [12, 3] (fun i s => (i = .int .i64 0 ∧ s = .int .i64 0) ∨ (i = .int .i64 1 ∧ s = .int .i64 2) ∨ (i = .int .i64 2 ∧ s = .int .i64 4) ∨ (i = .int .i64 3 ∧ s = .int .i64 6) ∨ (i = .int .i64 4 ∧ s = .int .i64 8)) (fun i _ => 4 - (intOf i).toNat)
  case atStart => exact .inl ⟨rfl, rfl⟩
  case round =>
    have p6 : popc 6 = 2 := by decide
    have p9 : popc 9 = 2 := by decide
    rcases hrel with ⟨rfl, rfl⟩ | ⟨rfl, rfl⟩ | ⟨rfl, rfl⟩ | ⟨rfl, rfl⟩ | ⟨rfl, rfl⟩
    · go_wp2_with (go_at_call 68; refine (countBits_any _ (by omega) (by omega) _).mono ?_; rintro e w' ⟨rfl, rfl⟩)
      go_round
      case rel => exact .inr (.inl ⟨rfl, rfl⟩)
      case measure => simp [intOf]
    · go_wp2_with (go_at_call 68; refine (countBits_any _ (by omega) (by omega) _).mono ?_; rintro e w' ⟨rfl, rfl⟩)
      go_round
      case rel => exact .inr (.inr (.inl ⟨rfl, rfl⟩))
      case measure => simp [intOf]
    · go_wp2_with (go_at_call 68; refine (countBits_any _ (by omega) (by omega) _).mono ?_; rintro e w' ⟨rfl, rfl⟩)
      go_round
      case rel => exact .inr (.inr (.inr (.inl ⟨rfl, rfl⟩)))
      case measure => simp [intOf]
    · go_wp2_with (go_at_call 68; refine (countBits_any _ (by omega) (by omega) _).mono ?_; rintro e w' ⟨rfl, rfl⟩)
      go_round
      case rel => exact .inr (.inr (.inr (.inr ⟨rfl, rfl⟩)))
      case measure => simp [intOf]
    · go_wp2
      go_ret
      exact ⟨rfl, hbl⟩

theorem alive_any (w : World) : Calls Tryd.prog 11 #[] w fun e w' => e = .returned (.bool true) ∧ Below w.heap.size w w' := by
  go_enter Tryd.func11, Tryd.ntmps11
  go_wp2_with fail
  refine (gridOf_two _).mono ?_
  rintro e w1 ⟨⟨g, rfl, hk⟩, hb1⟩
  go_wp2_with fail
  refine (linesMany_four g _ hk.lt hk).mono ?_
  rintro e w2 ⟨rfl, hb2⟩
  go_wp2
  go_ret
  exact ⟨rfl, hb1.trans (hb2.mono hb1.size)⟩
end Go.Proofs.YtkimgdfcgfhibaaDoor
