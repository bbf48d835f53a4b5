/- The laws' helpers on slices of numbers: toIntS, eqIntS. Condition: at most 2^40 numbers. -/
import Derived.Test.YtpcaagbmjhgnaaaNum
namespace Go.Proofs.Ytpcaagbmjhgnaaa
open Go.ChangeShapes Go.WideShapes Go.ChangeAt Go.RowKit

def fillI (xs : List Int) (k : Nat) : Array Value := (ints (xs.take k ++ List.replicate (xs.length - k) 0)).toArray
theorem fillI_size (xs : List Int) (k : Nat) (hk : k ≤ xs.length) : (fillI xs k).size = xs.length := by simp [fillI]; omega
theorem fillI_at (xs : List Int) (k : Nat) (hk : k < xs.length) : (fillI xs k)[k]? = some (.int .i64 0) := by
  unfold fillI ints
  simp only [List.getElem?_toArray, List.getElem?_map, Option.map_eq_some_iff]
  refine ⟨0, ?_, rfl⟩
  rw [List.getElem?_append_right (by simp only [List.length_take]; omega)]
  simp only [List.length_take, List.getElem?_replicate]
  rw [if_pos (by omega)]
theorem fillI_step (xs : List Int) (k : Nat) (x : Int) (hx : xs[k]? = some x) : (fillI xs k).setIfInBounds k (.int .i64 x) = fillI xs (k + 1) := by
  have hk : k < xs.length := (List.getElem?_eq_some_iff.1 hx).1
  apply Array.ext'
  unfold fillI ints
  simp only [Array.toList_setIfInBounds]
  apply List.ext_getElem?
  intro i
  rw [List.getElem?_set]
  simp only [List.getElem?_map, List.length_map, List.length_append, List.length_take, List.length_replicate]
  have e1 : min k xs.length = k := by omega
  have e2 : min (k + 1) xs.length = k + 1 := by omega
  rcases Nat.lt_trichotomy k i with h | h | h
  · rw [if_neg (by omega), List.getElem?_append_right (by simp; omega), List.getElem?_append_right (by simp; omega)]
    simp only [List.length_take, List.getElem?_replicate, e1, e2]
    by_cases h2 : i < xs.length
    · rw [if_pos (by omega), if_pos (by omega)]
    · rw [if_neg (by omega), if_neg (by omega)]
  · subst h
    rw [if_pos rfl, if_pos (by omega), List.getElem?_append_left (by simp; omega), List.getElem?_take, if_pos (by omega), hx]; rfl
  · rw [if_neg (by omega), List.getElem?_append_left (by simp; omega), List.getElem?_append_left (by simp; omega), List.getElem?_take, List.getElem?_take, if_pos (by omega), if_pos (by omega)]
theorem fillI_done (xs : List Int) : (fillI xs xs.length).toList = ints xs := by simp [fillI]
theorem fillI_start (xs : List Int) : (madeCells #[.int .i64 0] xs.length) = fillI xs 0 := by
  apply Array.ext'
  rw [toList_madeCells_one]
  simp [fillI, ints]

theorem own_of_blk {w : World} {base g : Nat} {t : TypeId} {xs : List Int} (hb : base ≤ g) (hk : Blk w g t (fillI xs xs.length)) (hn : xs.length ≤ maxLen) : w.ownsRow base t 1 (.slice (some ⟨g, 0, none⟩) xs.length xs.length) xs.length (ints xs) :=
  ⟨by simp, .inr ⟨g, xs.length, _, rfl, hb, hk, Nat.le_refl _, hn, by rw [fillI_size _ _ (Nat.le_refl _)]; omega, by rw [fillI_done, Nat.mul_one]; exact List.take_of_length_le (by simp)⟩⟩

theorem toIntS_any (A : Option Addr) (n c : Nat) (xs : List Int) (w : World) (h : RdI .i64 w w.heap.size A n c xs) (hn : n ≤ 1099511627776) :
    Calls Try.prog 42 #[.slice A n c] w fun e w' => e = .returned (.slice (some ⟨w.heap.size, 0, none⟩) n n) ∧ w'.ownsRow w.heap.size 3 1 (.slice (some ⟨w.heap.size, 0, none⟩) n n) n (ints xs) ∧ Below w.heap.size w w' := by
  have hl := h.len
  obtain ⟨i0, hi, hz0, hz1, hz2⟩ := elInt.hi
  have HL := Lib.hid hl; clear hl
  go_enter Try.func42, Try.ntmps42
  go_wp2_with (at_make; refine wpList_make_full _ rfl _ _ 22 rfl w.heap.size 3 i0 _ 1 Try.underlying22 hi hz0 hz1 _ _ _ _ n rfl rfl rfl rfl (by rw [hz2]; omega) (by unfold maxLen; omega) (Nat.le_refl _) ?_; intro w1 hown hgr)
  have hb1 : Below w.heap.size w w1 := (Below.refl _ _).grown hgr (Nat.le_refl _) (by simp)
  have hk1 : Blk w1 w.heap.size 3 (fillI xs 0) := by
    rcases hown.2 with ⟨e, -⟩ | ⟨g, cap, cur, e, -, hh, -, -, hs, ht⟩
    · cases e
    · simp only [Value.slice.injEq, Option.some.injEq, Addr.mk.injEq] at e
      obtain ⟨⟨rfl, -⟩, -, rfl⟩ := e
      have : cur = fillI xs 0 := by
        rw [← fillI_start, HL.out]
        apply Array.ext'
        rw [List.take_of_length_le (by simp [hs])] at ht
        simpa [Value.cells] using ht
      rw [← this]; exact hh
  clear hown hgr
  have HB := Lib.hid hb1
  clear hb1
  go_wp2
  go_loopw [4] (fun i wr => ∃ k : Nat, k ≤ n ∧ i = .int .i64 k ∧ Blk wr w.heap.size 3 (fillI xs k) ∧ Below w.heap.size w wr) (fun i _ => n - (intOf i).toNat)
  case atStart => exact ⟨0, by omega, rfl, hk1, HB.out⟩
  case round =>
    obtain ⟨k, hk, rfl, hblk, hbel⟩ := hrel
    by_cases hlt : k < n
    · obtain ⟨b, off, x, rfl, hb, hx, hw, hc⟩ := h.get hlt
      have hcr : wr.cell? ⟨b, off + k, none⟩ = some (.int .i64 x) := (bcells hbel b _ hb).trans hc
      have hck : wr.cell? ⟨w.heap.size, k, none⟩ = some (.int .i64 0) := (hblk.cell k).trans (fillI_at xs k (by rw [HL.out]; exact hlt))
      have hfk : wr.frozen? ⟨w.heap.size, k, none⟩ = false := hblk.frozen k
      have HX := Lib.hid hx
      clear hx hc
      go_wp2
      go_roundw
      case rel =>
        refine ⟨k + 1, by omega, by go_num, ?_, hbel.setCell (by simp) _⟩
        rw [← fillI_step xs k x HX.out]
        exact hblk.set_ k _
      case measure => simp [intOf]; omega
    · obtain rfl : k = n := by omega
      go_wp2
      go_ret
      refine ⟨rfl, ?_, hbel⟩
      have := own_of_blk (Nat.le_refl w.heap.size) (by rw [HL.out]; exact hblk) (by rw [HL.out]; unfold maxLen; omega)
      rw [HL.out] at this
      exact this

theorem eqIntS_any (A : Option Addr) (n c : Nat) (xs : List Int) (A' : Option Addr) (n' c' : Nat) (ys : List Int) (w : World) (h : RdI .i64 w w.heap.size A n c xs) (h' : RdI .i64 w w.heap.size A' n' c' ys) :
    Calls Try.prog 44 #[.slice A n c, .slice A' n' c'] w fun e w' => e = .returned (.bool (decide (xs = ys))) ∧ ∃ q, w' = w.drewN q := by
  have hl := h.len
  have hl' := h'.len
  have hc := h.cap
  have hm := h.capMax
  unfold maxLen at hm
  by_cases hn : n = n'
  · subst hn
    have HL := Lib.hid hl; clear hl
    have HL' := Lib.hid hl'; clear hl'
    go_enter Try.func44, Try.ntmps44
    go_wp2
    go_loopw [5] (fun i wr => ∃ k q : Nat, k ≤ n ∧ i = .int .i64 k ∧ Hid (∀ j, j < k → xs[j]? = ys[j]?) ∧ wr = w.drewN q) (fun i _ => n - (intOf i).toNat)
    case atStart => exact ⟨0, 0, by omega, rfl, Lib.hid (by omega), rfl⟩
    case round =>
      obtain ⟨k, q, hk, rfl, hpre, rfl⟩ := hrel
      by_cases hlt : k < n
      · obtain ⟨b, off, x, rfl, hb, hx, hw, hc⟩ := h.get hlt
        obtain ⟨b', off', y, rfl, hb', hy, hw', hc'⟩ := h'.get hlt
        by_cases hxy : x = y
        · subst hxy
          have HX := Lib.hid (hx.trans hy.symm)
          clear hx hy
          go_wp2
          go_quiet (fail)
          go_wp2
          go_roundw
          case rel => exact ⟨k + 1, _, by omega, by go_num, Lib.hid fun j hj => by
            rcases Nat.lt_or_ge j k with h1 | h1
            · exact hpre.out j h1
            · obtain rfl : j = k := by omega
              exact HX.out, rfl⟩
          case measure => simp [intOf]; omega
        · have HF : Hid (decide (xs = ys) = false) := Lib.hid (decide_eq_false fun e => by rw [e, hy] at hx; injection hx with hx; exact hxy hx.symm)
          have hne : (x != y) = true := by rw [bne_iff_ne]; exact hxy
          clear hx hy hxy
          go_wp2
          go_quiet (fail)
          go_wp2
          go_ret
          exact ⟨ret_bool HF.out.symm, _, World.drewN_drewN _ _ _⟩
      · have HT : Hid (decide (xs = ys) = true) := Lib.hid (decide_eq_true (List.ext_getElem? fun j => by
          rcases Nat.lt_or_ge j k with h1 | h1
          · exact hpre.out j h1
          · rw [List.getElem?_eq_none (by rw [HL.out]; omega), List.getElem?_eq_none (by rw [HL'.out]; omega)]))
        go_wp2
        go_ret
        exact ⟨ret_bool HT.out.symm, _, rfl⟩
  · have HF : Hid (decide (xs = ys) = false) := Lib.hid (decide_eq_false fun e => hn (by rw [← hl, ← hl', e]))
    have hne : ((n : Int) != (n' : Int)) = true := by rw [bne_iff_ne]; omega
    clear hl hl'
    go_enter Try.func44, Try.ntmps44
    go_wp2
    go_ret
    exact ⟨ret_bool HF.out.symm, 0, rfl⟩
end Go.Proofs.Ytpcaagbmjhgnaaa
