/- SetValid, pressChange and RowsOf, of the program and of the reference, for graphs. -/
import Derived.Test.YtfgebdioffeliaaSGraphV
import Derived.Test.YtfgebdioffeliaaSBValid
namespace Go.Proofs.Ytfgebdioffeliaa
set_option linter.unusedVariables false
set_option linter.unusedSimpArgs false
open Go.ChangeShapes Go.WideShapes Go.ChangeAt Go.RowKit

def setOk (xs : List Int) (s : Int) : Bool := graphOk xs && decide (0 ≤ s ∧ s < 2 ^ xs.length)
theorem setOk_iff (xs : List Int) (s : Int) : setOk xs s = true ↔ graphOk xs = true ∧ 0 ≤ s ∧ s < 2 ^ xs.length := by unfold setOk; simp
def rowX (xs : List Int) (k : Nat) : Int := (((xs.getD k 0).toNat ^^^ 2 ^ k : Nat) : Int)
def rowsL (xs : List Int) : List Int := (List.range xs.length).map (rowX xs)
theorem rowsL_len (xs : List Int) : (rowsL xs).length = xs.length := by simp [rowsL]
theorem rowsL_at (xs : List Int) (k : Nat) (hk : k < xs.length) : (rowsL xs)[k]? = some (rowX xs k) := by simp [rowsL, hk]
theorem rowX_of (xs : List Int) (k m : Nat) (h : xs[k]? = some (m : Int)) : rowX xs k = ((m ^^^ 2 ^ k : Nat) : Int) := by
  unfold rowX; rw [List.getD, h]; rfl
theorem rowX_add (xs : List Int) (k m : Nat) (h : xs[k]? = some (m : Int)) (hb : bit m k = 0) : rowX xs k = (m : Int) + 2 ^ k := by
  rw [rowX_of xs k m h]
  have e : m &&& 2 ^ k = 0 := by
    refine Nat.eq_of_testBit_eq fun j => ?_
    rw [Nat.testBit_and, Nat.testBit_two_pow]
    by_cases hj : k = j
    · subst hj; rw [testBit_bit, hb]; simp
    · simp [hj]
  have := xor_add_and m (2 ^ k)
  have e2 : m ^^^ 2 ^ k = m + 2 ^ k := by omega
  rw [e2]; push_cast; rfl
theorem rowX_lt (xs : List Int) (h : graphOk xs = true) (k : Nat) (hk : k < xs.length) : 0 ≤ rowX xs k ∧ rowX xs k < 512 := by
  obtain ⟨x, hx⟩ : ∃ x, xs[k]? = some x := ⟨_, List.getElem?_eq_getElem hk⟩
  obtain ⟨h0, h1, -⟩ := graphOk_at xs h k x hx
  obtain ⟨m, rfl⟩ := Int.eq_ofNat_of_zero_le h0
  have hl := (graphOk_len xs h).2
  have hp9 := pow_le_int xs.length 9 hl
  have : m ^^^ 2 ^ k < 2 ^ 9 := Nat.xor_lt_two_pow (by omega) (Nat.pow_lt_pow_right (by omega) (by omega))
  rw [rowX_of xs k m hx]
  omega
theorem rowsL_wf (xs : List Int) (h : graphOk xs = true) : ∀ x ∈ rowsL xs, (Lit.int .i64 x).wf = true := fun x hx => by
  obtain ⟨k, hk, rfl⟩ := List.mem_map.1 hx
  have := rowX_lt xs h k (List.mem_range.1 hk)
  exact wf_i64_mk (by omega)
theorem setValid_impl (A : Option Addr) (n c : Nat) (xs : List Int) (s : Int) (w : World) (h : RdI .i64 w w.heap.size A n c xs) :
    Calls Try.prog 21 #[.agg #[.slice A n c], .int .i64 s] w fun e w' => e = .returned (.bool (setOk xs s)) ∧ Below w.heap.size w w' := by
  have HL := Lib.hid h.len
  have S0 := (St.refl w).alloc #[.slice A n c] 25
  have HS0 := Lib.hid S0
  have H := Lib.hid (h.up S0.below)
  clear S0 h
  obtain ⟨bo, hok⟩ : ∃ b, graphOk xs = b := ⟨_, rfl⟩
  have HOK := Lib.hid hok
  clear hok
  cases bo with
  | false =>
    have HF : Hid (setOk xs s = false) := Lib.hid (by unfold setOk; rw [HOK.out]; rfl)
    go_enter Try.func21, Try.ntmps21
    go_wp2_with fail
    refine (graphValid_impl A n c xs _ H.out).mono ?_
    rw [HOK.out]
    rintro e w1 ⟨rfl, hb1⟩
    have HB := Lib.hid hb1
    clear hb1
    go_wp2
    go_ret
    exact ⟨ret_bool HF.out.symm, (HS0.out.quiet HB.out).below⟩
  | true =>
    have hn9 : n ≤ 9 := by rw [← HL.out]; exact (graphOk_len xs HOK.out).2
    have hw := wrap_pow n (by omega)
    by_cases hs0 : 0 ≤ s
    · by_cases hs1 : s < 2 ^ n
      · have HF : Hid (setOk xs s = true) := Lib.hid ((setOk_iff xs s).2 ⟨HOK.out, hs0, by rw [HL.out]; exact hs1⟩)
        go_enter Try.func21, Try.ntmps21
        go_wp2_with fail
        refine (graphValid_impl A n c xs _ H.out).mono ?_
        rw [HOK.out]
        rintro e w1 ⟨rfl, hb1⟩
        have S1 := HS0.out.quiet hb1
        have q0 : ∀ j, w1.cell? ⟨w.heap.size, j, none⟩ = _ := S1.cells 0 rfl
        have HS1 := Lib.hid S1
        clear S1 hb1
        go_wp2
        go_ret
        exact ⟨ret_bool HF.out.symm, HS1.out.below⟩
      · have HF : Hid (setOk xs s = false) := Lib.hid (by unfold setOk; rw [decide_eq_false (by rw [HL.out]; omega)]; simp)
        go_enter Try.func21, Try.ntmps21
        go_wp2_with fail
        refine (graphValid_impl A n c xs _ H.out).mono ?_
        rw [HOK.out]
        rintro e w1 ⟨rfl, hb1⟩
        have S1 := HS0.out.quiet hb1
        have q0 : ∀ j, w1.cell? ⟨w.heap.size, j, none⟩ = _ := S1.cells 0 rfl
        have HS1 := Lib.hid S1
        clear S1 hb1
        go_wp2
        go_ret
        exact ⟨ret_bool (by rw [HF.out]; exact decide_eq_false (by omega)), HS1.out.below⟩
    · have HF : Hid (setOk xs s = false) := Lib.hid (by unfold setOk; rw [decide_eq_false (by omega)]; simp)
      go_enter Try.func21, Try.ntmps21
      go_wp2_with fail
      refine (graphValid_impl A n c xs _ H.out).mono ?_
      rw [HOK.out]
      rintro e w1 ⟨rfl, hb1⟩
      have HB := Lib.hid hb1
      clear hb1
      go_wp2
      go_ret
      exact ⟨ret_bool HF.out.symm, (HS0.out.quiet HB.out).below⟩
theorem setValid_spec (A : Option Addr) (n c : Nat) (xs : List Int) (s : Int) (w : World) (h : RdI .i64 w w.heap.size A n c xs) (hs : (Lit.int .i64 s).wf = true) :
    Calls Try.prog 26 #[.agg #[.slice A n c], .int .i64 s] w fun e w' => e = .returned (.bool (setOk xs s)) ∧ Below w.heap.size w w' := by
  have HL := Lib.hid h.len
  have S0 := (St.refl w).alloc #[.slice A n c] 25
  have HS0 := Lib.hid S0
  have H := Lib.hid (h.up S0.below)
  clear S0 h
  obtain ⟨bo, hok⟩ : ∃ b, graphOk xs = b := ⟨_, rfl⟩
  have HOK := Lib.hid hok
  clear hok
  cases bo with
  | false =>
    have HF : Hid (setOk xs s = false) := Lib.hid (by unfold setOk; rw [HOK.out]; rfl)
    go_enter Try.func26, Try.ntmps26
    go_wp2_with fail
    refine (graphValid_spec A n c xs _ H.out).mono ?_
    rw [HOK.out]
    rintro e w1 ⟨rfl, hb1⟩
    have HB := Lib.hid hb1
    clear hb1
    go_wp2
    go_ret
    exact ⟨ret_bool HF.out.symm, (HS0.out.quiet HB.out).below⟩
  | true =>
    have hn9 : n ≤ 9 := by rw [← HL.out]; exact (graphOk_len xs HOK.out).2
    have hw := wrap_pow n (by omega)
    have hp9 := pow_le_int n 9 hn9
    have hp1 : 1 ≤ (2 : Int) ^ n := Int.pow_pos (by omega)
    have HF : Hid (setOk xs s = decide (0 ≤ s ∧ s ≤ 2 ^ n - 1)) := Lib.hid (by unfold setOk; rw [HOK.out, HL.out, Bool.true_and, Bool.eq_iff_iff, decide_eq_true_eq, decide_eq_true_eq]; omega)
    go_enter Try.func26, Try.ntmps26
    go_wp2_with fail
    refine (graphValid_spec A n c xs _ H.out).mono ?_
    rw [HOK.out]
    rintro e w1 ⟨rfl, hb1⟩
    have S1 := HS0.out.quiet hb1
    have q0 : ∀ j, w1.cell? ⟨w.heap.size, j, none⟩ = _ := S1.cells 0 rfl
    have HS1 := Lib.hid S1
    clear S1 hb1
    go_wp2_with fail
    refine (l1In_any s 0 (2 ^ n - 1) _).mono ?_
    rw [← HF.out]
    rintro e w2 ⟨rfl, rfl⟩
    obtain ⟨bs, hbs⟩ : ∃ b, setOk xs s = b := ⟨_, rfl⟩
    rw [hbs]
    have HBS := Lib.hid hbs
    clear hbs
    cases bs with
    | false => go_wp2; go_ret; exact ⟨ret_bool HBS.out.symm, HS1.out.below⟩
    | true => go_wp2; go_ret; exact ⟨ret_bool HBS.out.symm, HS1.out.below⟩
theorem pressChange_any (A : Option Addr) (n c : Nat) (xs : List Int) (k : Nat) (w : World) (h : RdI .i64 w w.heap.size A n c xs) (hok : graphOk xs = true) (hk : k < n) :
    Calls Try.prog 34 #[.agg #[.slice A n c], .int .i64 k] w fun e w' => e = .returned (.int .i64 (rowX xs k)) ∧ Below w.heap.size w w' := by
  have HL := Lib.hid h.len
  have S0 := (St.refl w).alloc #[.slice A n c] 25
  have HS0 := Lib.hid S0
  have hn9 : n ≤ 9 := by rw [← HL.out]; exact (graphOk_len xs hok).2
  obtain ⟨b, off, x, rfl, hb, hx, hwf, hc⟩ := h.get hk
  obtain ⟨x0, x1, -⟩ := graphOk_at xs hok k x hx
  rw [HL.out] at x1
  obtain ⟨m, rfl⟩ := Int.eq_ofNat_of_zero_le x0
  have hcr : (w.alloc (Obj.cells #[Value.slice (some ⟨b, off, none⟩) n c] 25)).cell? ⟨b, off + k, none⟩ = some (.int .i64 (m : Int)) := (bcells S0.below b _ hb).trans hc
  have q0 : ∀ j, (w.alloc (Obj.cells #[Value.slice (some ⟨b, off, none⟩) n c] 25)).cell? ⟨w.heap.size, j, none⟩ = _ := S0.cells 0 rfl
  have hp9 := pow_le_int n 9 hn9
  have hw := wrap_pow k (by omega)
  have hpk : 2 ^ k < 2 ^ 9 := Nat.pow_lt_pow_right (by omega) (by omega)
  have hxor : bits .xor .i64 (m : Int) (2 ^ k) = rowX xs k := by
    have := i64_xor_nat m (2 ^ k) (by omega) (by omega)
    rw [rowX_of xs k m hx, ← this]; simp
  clear S0 hc hx
  go_enter Try.func34, Try.ntmps34
  go_upto_region 1 with (fail)
  go_quiet (fail)
  go_wp2
  go_ret
  exact ⟨rfl, HS0.out.below.trans (below_drewN (Below.refl _ _) _)⟩
set_option maxRecDepth 100000 in
set_option maxHeartbeats 1000000 in
theorem rowsOf_impl (A : Option Addr) (n c : Nat) (xs : List Int) (w : World) (h : RdI .i64 w w.heap.size A n c xs) (hok : graphOk xs = true) :
    Calls Try.prog 23 #[.agg #[.slice A n c]] w (Gives w id fun v => [rInts v (rowsL xs)]) := by
  have HL := Lib.hid h.len
  have hn9 : n ≤ 9 := by rw [← HL.out]; exact (graphOk_len xs hok).2
  have S0 := (St.refl w).alloc #[.slice A n c] 25
  have HS0 := Lib.hid S0
  have H := Lib.hid h
  have HOK := Lib.hid hok
  obtain ⟨ys, hys⟩ : ∃ ys, rowsL xs = ys := ⟨_, rfl⟩
  have HYS := Lib.hid hys
  have HYL : Hid (ys.length = n) := Lib.hid (by rw [← hys, rowsL_len, HL.out])
  obtain ⟨i0, hi, hz0, hz1, hz2⟩ := elInt.hi
  clear S0 h hok
  rw [hys]
  clear hys
  go_enter Try.func23, Try.ntmps23
  go_wp2_with fail
  refine (graphValid_impl A n c xs _ (H.out.up HS0.out.below)).mono ?_
  rw [HOK.out]
  rintro e w1 ⟨rfl, hb1⟩
  have S1 := HS0.out.quiet hb1
  have q0 : ∀ j, w1.cell? ⟨w.heap.size, j, none⟩ = _ := S1.cells 0 rfl
  have HS1 := Lib.hid S1
  clear S1 hb1
  go_wp2_with (at_make; refine wpList_make_full _ rfl _ _ 23 rfl w1.heap.size 3 i0 _ 1 Try.underlying23 hi hz0 hz1 _ _ _ _ n rfl rfl rfl rfl (by rw [hz2]; omega) (by unfold maxLen; omega) (Nat.le_refl _) ?_; intro w2 hown hgr)
  have hb2 : Below w1.heap.size w1 w2 := (Below.refl _ _).grown hgr (Nat.le_refl _) (by simp)
  have hk1 : Blk w2 w1.heap.size 3 (fillI ys 0) := by
    rcases hown.2 with ⟨e, -⟩ | ⟨g, cap, cur, e, -, hh, -, -, hs, ht⟩
    · cases e
    · simp only [Value.slice.injEq, Option.some.injEq, Addr.mk.injEq] at e
      obtain ⟨⟨rfl, -⟩, -, rfl⟩ := e
      have : cur = fillI ys 0 := by
        rw [← fillI_start, HYL.out]
        apply Array.ext'
        rw [List.take_of_length_le (by simp [hs])] at ht
        simpa [Value.cells] using ht
      rw [← this]; exact hh
  obtain ⟨g, hg⟩ : ∃ g, w1.heap.size = g := ⟨_, rfl⟩
  have S2 : St w w2 [rBlk w.heap.size 25 #[.slice A n c], rBlk g 3 (fillI ys 0)] := HS1.out.call ⟨hb2, [[g]], rfl, fun i R F hR hF => by
    match i with
    | 0 => injection hR with hR; injection hF with hF; subst hR hF; exact ⟨⟨hg ▸ hk1, rfl⟩, by simp [hg]⟩
    | i + 1 => simp at hR, by simp⟩
  have HS2 := Lib.hid S2
  rw [hg]
  clear hown hgr hb2 hk1 S2 q0 hg
  go_wp2
  go_loopw [14] (fun i wr => ∃ k : Nat, k ≤ n ∧ i = .int .i64 k ∧ St w wr [rBlk w.heap.size 25 #[.slice A n c], rBlk g 3 (fillI ys k)]) (fun i _ => n - (intOf i).toNat)
  case atStart => exact ⟨0, by omega, rfl, HS2.out⟩
  case round =>
    obtain ⟨k, hk, rfl, M⟩ := hrel
    by_cases hlt : k < n
    · have q0 : ∀ j, wr.cell? ⟨w.heap.size, j, none⟩ = _ := M.cells 0 rfl
      have HM := Lib.hid M
      clear M
      go_wp2_with fail
      refine (pressChange_any A n c xs k _ (H.out.up HM.out.below) HOK.out hlt).mono ?_
      rintro e w3 ⟨rfl, hb3⟩
      have S3 := HM.out.quiet hb3
      have hck : w3.cell? ⟨g, k, none⟩ = some (.int .i64 0) := ((S3.blk 1 rfl).cell k).trans (fillI_at ys k (by rw [HYL.out]; exact hlt))
      have hfk : w3.frozen? ⟨g, k, none⟩ = false := (S3.blk 1 rfl).frozen k
      have HS3 := Lib.hid S3
      have HY : Hid (ys[k]? = some (rowX xs k)) := Lib.hid (by rw [← HYS.out]; exact rowsL_at xs k (by rw [HL.out]; exact hlt))
      clear S3 hb3 q0
      go_wp2
      go_roundw
      case rel => exact ⟨k + 1, by omega, by go_num, by rw [← fillI_step ys k _ HY.out]; exact HS3.out.set 1 rfl k _⟩
      case measure => simp [intOf]; omega
    · have hkn : k = n := by omega
      have HM : Hid (St w wr [rInts (.slice (some ⟨g, 0, none⟩) n n) ys]) := Lib.hid (((M.pick [1] (by decide) rfl rfl).see fun F h1 _ => blk_ints (xs := ys) (by
        rw [hkn] at h1
        have e : (ints ys).toArray = fillI ys n := by
          apply Array.ext'; rw [← HYL.out, fillI_done]
        rw [e]; exact h1) (by rw [HYL.out]; unfold maxLen; omega) (by rw [← HYS.out]; exact rowsL_wf xs HOK.out) HYL.out.symm))
      clear hkn M
      go_wp2
      go_ret
      exact ⟨_, rfl, HM.out⟩
end Go.Proofs.Ytfgebdioffeliaa
