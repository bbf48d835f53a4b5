/- Walks of the lights of the program: presses, quiet sets, the least set, sums. -/
import Derived.Test.YtfgebdioffeliaaSLightQ
import Derived.Test.YtfgebdioffeliaaSTruth
import Derived.Test.YtfgebdioffeliaaSFront
import Derived.Test.YtfgebdioffeliaaSBits
import Derived.Test.YtfgebdioffeliaaSBValid
import Derived.Test.YtfgebdioffeliaaSPlanForW
namespace Go.Proofs.Ytfgebdioffeliaa
set_option linter.unusedVariables false
set_option linter.unusedSimpArgs false
open Go.ChangeShapes Go.WideShapes Go.ChangeAt Go.RowKit

def pressN (xs : List Int) (set k : Nat) : Nat := press (rowF xs) set k
theorem pressN_lt {xs : List Int} (h : graphOk xs = true) (set k : Nat) : pressN xs set k < 512 := press_lt (fun j => by
  have := rowF_lt h j
  have h9 := (graphOk_len xs h).2
  have hp : (2 : Nat) ^ xs.length ≤ 512 := Nat.pow_le_pow_right (n := 2) (by omega) (show xs.length ≤ 9 from h9)
  omega) set k
theorem pressN_yes {xs : List Int} {set k : Nat} (h : graphOk xs = true) (hk : k < xs.length) (hb : bit set k = 1) : bits .xor .i64 ((pressN xs set k : Nat) : Int) (rowX xs k) = ((pressN xs set (k + 1) : Nat) : Int) := by
  have h1 := pressN_lt h set k
  have h2 : rowF xs k < 512 := by
    have := rowF_lt h k
    have h9 := (graphOk_len xs h).2
    have hp : (2 : Nat) ^ xs.length ≤ 512 := Nat.pow_le_pow_right (n := 2) (by omega) (show xs.length ≤ 9 from h9)
    omega
  rw [rowF_X hk, i64_xor_nat _ _ (by omega) (by omega)]
  unfold pressN
  simp only [press]
  rw [if_pos (by rw [testBit_bit, hb]; rfl)]
theorem pressN_no {xs : List Int} {set k : Nat} (hb : bit set k = 0) : pressN xs set (k + 1) = pressN xs set k := by
  unfold pressN
  simp only [press]
  rw [if_neg (by rw [testBit_bit, hb]; simp)]
set_option maxRecDepth 100000 in
set_option maxHeartbeats 1000000 in
theorem pressesChange_any (A : Option Addr) (n c : Nat) (xs : List Int) (set : Nat) (w : World) (h : RdI .i64 w w.heap.size A n c xs) (hok : graphOk xs = true) (hset : set < 512) :
    Calls Try.prog 38 #[.agg #[.slice A n c], .int .i64 set] w fun e w' => e = .returned (.int .i64 (pressN xs set n : Nat)) ∧ Below w.heap.size w w' := by
  have HL := Lib.hid h.len
  have hn9 : n ≤ 9 := by rw [← HL.out]; exact (graphOk_len xs hok).2
  have HS0 := Lib.hid ((St.refl w).alloc #[.slice A n c] 25)
  have H := Lib.hid h
  have HOK := Lib.hid hok
  clear h hok
  go_enter Try.func38, Try.ntmps38
  go_wp2
  go_loopw [5, 10] (fun pv i wr => ∃ k P : Nat, k ≤ n ∧ i = .int .i64 k ∧ pv = .int .i64 P ∧ Bx (P = pressN xs set k) ∧ St w wr [rBlk w.heap.size 25 #[.slice A n c]]) (fun _ i _ => n - (intOf i).toNat)
  case atStart => exact ⟨0, 0, by omega, rfl, rfl, Bx.mk rfl, HS0.out⟩
  case round =>
    clear HS0
    obtain ⟨k, P, hk, rfl, rfl, HP, S⟩ := hrel
    have HS := Lib.hid S
    clear S
    by_cases hlt : k < n
    · have hbit := and_one set k (by omega)
      by_cases hb1 : bit set k = 1
      · rw [hb1] at hbit
        have HV := Bx.mk (pressN_yes HOK.out (by rw [HL.out]; exact hlt) hb1)
        have q0 : ∀ j, wr.cell? ⟨w.heap.size, j, none⟩ = _ := HS.out.cells 0 rfl
        clear hb1
        go_wp2_with fail
        refine (pressChange_any A n c xs k _ (H.out.up HS.out.below) HOK.out hlt).mono ?_
        rintro e w3 ⟨rfl, hb3⟩
        have HS3 := Lib.hid (HS.out.quiet hb3)
        obtain ⟨x, hx⟩ : ∃ x, rowX xs k = x := ⟨_, rfl⟩
        have hv : bits .xor .i64 (P : Int) x = ((pressN xs set (k + 1) : Nat) : Int) := by rw [HP.out, ← hx]; exact HV.out
        obtain ⟨Q, hQ⟩ : ∃ Q, pressN xs set (k + 1) = Q := ⟨_, rfl⟩
        have HQ := Bx.mk hQ
        rw [hx]
        rw [hQ] at hv
        clear hb3 hx hQ HS q0
        go_wp2
        go_roundw
        case rel => exact ⟨k + 1, Q, by omega, by go_num, rfl, Bx.mk HQ.out.symm, HS3.out⟩
        case measure => simp [intOf]; omega
      · have hb0 : bit set k = 0 := by have := bit_lt set k; omega
        rw [hb0] at hbit
        have HQ := Bx.mk (HP.out.trans (pressN_no hb0).symm)
        clear hb1 hb0
        go_wp2
        go_roundw
        case rel => exact ⟨k + 1, P, by omega, by go_num, rfl, HQ, HS.out⟩
        case measure => simp [intOf]; omega
    · have hkn : k = n := by omega
      have HF : Bx (P = pressN xs set n) := Bx.mk (by rw [HP.out, hkn])
      clear hkn
      go_wp2
      go_ret
      exact ⟨by rw [HF.out]; rfl, HS.out.below⟩
/-- the lights behind a press -/
def pressDo (xs : List Int) (s k : Int) : Int := if setOk xs s = true ∧ 0 ≤ k ∧ k < xs.length then ((s.toNat ^^^ rowF xs k.toNat : Nat) : Int) else -1
set_option maxRecDepth 100000 in
set_option maxHeartbeats 1000000 in
theorem pressDo_impl (A : Option Addr) (n c : Nat) (xs : List Int) (s k : Nat) (w : World) (h : RdI .i64 w w.heap.size A n c xs) (hok : setOk xs (s : Int) = true) (hk : k < n) :
    Calls Try.prog 10 #[.agg #[.slice A n c], .int .i64 s, .int .i64 k] w fun e w' => e = .returned (.int .i64 ((s ^^^ rowF xs k : Nat) : Int)) ∧ Below w.heap.size w w' := by
  have HL := Lib.hid h.len
  obtain ⟨hg, hs0, hs1⟩ := (setOk_iff xs s).1 hok
  rw [h.len] at hs1
  have hn9 : n ≤ 9 := by rw [← HL.out]; exact (graphOk_len xs hg).2
  have hp9 := pow_le_int n 9 hn9
  have HS0 := Lib.hid ((St.refl w).alloc #[.slice A n c] 25)
  have H := Lib.hid h
  have HOK := Lib.hid hok
  have HG := Lib.hid hg
  have hr : rowF xs k < 512 := by
    have := rowF_lt hg k
    have hp : (2 : Nat) ^ xs.length ≤ 512 := Nat.pow_le_pow_right (n := 2) (by omega) (show xs.length ≤ 9 from by rw [HL.out]; exact hn9)
    omega
  have HX : Bx (rowX xs k = (rowF xs k : Nat)) := Bx.mk (rowF_X (by rw [HL.out]; exact hk))
  have hxor := i64_xor_nat s (rowF xs k) (by omega) (by omega)
  obtain ⟨x, hx⟩ : ∃ x, rowF xs k = x := ⟨_, rfl⟩
  rw [hx] at hxor hr HX ⊢
  clear h hok hg hx
  go_enter Try.func10, Try.ntmps10
  go_wp2_with fail
  refine (setValid_impl A n c xs s _ (H.out.up HS0.out.below)).mono ?_
  rw [HOK.out]
  rintro e w1 ⟨rfl, hb1⟩
  have HS1 := Lib.hid (HS0.out.quiet hb1)
  clear hb1 HS0
  have q1 : ∀ j, w1.cell? ⟨w.heap.size, j, none⟩ = _ := HS1.out.cells 0 rfl
  have hki : (k : Int) < (n : Int) := by omega
  go_wp2_with fail
  refine (pressChange_any A n c xs k _ (H.out.up HS1.out.below) HG.out hk).mono ?_
  rw [HX.out]
  rintro e w2 ⟨rfl, hb2⟩
  have HS2 := Lib.hid (HS1.out.quiet hb2)
  clear hb2 HS1 q1
  go_wp2
  go_ret
  exact ⟨rfl, HS2.out.below⟩
set_option maxRecDepth 100000 in
set_option maxHeartbeats 1000000 in
theorem pressSet_impl (A : Option Addr) (n c : Nat) (xs : List Int) (s : Nat) (w : World) (h : RdI .i64 w w.heap.size A n c xs) (hok : setOk xs (s : Int) = true) :
    Calls Try.prog 16 #[.agg #[.slice A n c], .int .i64 s] w fun e w' => e = .returned (.int .i64 (pressN xs s n : Nat)) ∧ Below w.heap.size w w' := by
  have HL := Lib.hid h.len
  obtain ⟨hg, hs0, hs1⟩ := (setOk_iff xs s).1 hok
  rw [h.len] at hs1
  have hn9 : n ≤ 9 := by rw [← HL.out]; exact (graphOk_len xs hg).2
  have hp9 := pow_le_int n 9 hn9
  have hs512 : s < 512 := by omega
  have HS0 := Lib.hid ((St.refl w).alloc #[.slice A n c] 25)
  have H := Lib.hid h
  have HOK := Lib.hid hok
  have HG := Lib.hid hg
  clear h hok hg
  go_enter Try.func16, Try.ntmps16
  go_wp2_with fail
  refine (setValid_impl A n c xs s _ (H.out.up HS0.out.below)).mono ?_
  rw [HOK.out]
  rintro e w1 ⟨rfl, hb1⟩
  have HS1 := Lib.hid (HS0.out.quiet hb1)
  clear hb1 HS0
  have q1 : ∀ j, w1.cell? ⟨w.heap.size, j, none⟩ = _ := HS1.out.cells 0 rfl
  go_wp2_with fail
  refine (pressesChange_any A n c xs s _ (H.out.up HS1.out.below) HG.out hs512).mono ?_
  rintro e w2 ⟨rfl, hb2⟩
  have HS2 := Lib.hid (HS1.out.quiet hb2)
  clear hb2 HS1 q1
  go_wp2
  go_ret
  exact ⟨rfl, HS2.out.below⟩
set_option maxRecDepth 100000 in
set_option maxHeartbeats 1000000 in
theorem setMany_impl (A : Option Addr) (n c : Nat) (xs : List Int) (s : Nat) (w : World) (h : RdI .i64 w w.heap.size A n c xs) (hok : setOk xs (s : Int) = true) :
    Calls Try.prog 15 #[.agg #[.slice A n c], .int .i64 s] w fun e w' => e = .returned (.int .i64 (popc s : Nat)) ∧ Below w.heap.size w w' := by
  have HL := Lib.hid h.len
  obtain ⟨hg, hs0, hs1⟩ := (setOk_iff xs s).1 hok
  rw [h.len] at hs1
  have hn9 : n ≤ 9 := by rw [← HL.out]; exact (graphOk_len xs hg).2
  have hp9 := pow_le_int n 9 hn9
  have hs512 : s < 512 := by omega
  have HS0 := Lib.hid ((St.refl w).alloc #[.slice A n c] 25)
  have H := Lib.hid h
  have HOK := Lib.hid hok
  clear h hok hg
  go_enter Try.func15, Try.ntmps15
  go_wp2_with fail
  refine (setValid_impl A n c xs s _ (H.out.up HS0.out.below)).mono ?_
  rw [HOK.out]
  rintro e w1 ⟨rfl, hb1⟩
  have HS1 := Lib.hid (HS0.out.quiet hb1)
  clear hb1 HS0
  go_wp2_with fail
  refine (countBits_nat s (by omega) _).mono ?_
  rintro e w2 ⟨rfl, rfl⟩
  go_wp2
  go_ret
  exact ⟨rfl, HS1.out.below⟩
/-- quiet sets below m, in ascending order -/
def quietL (xs : List Int) (m : Nat) : List Int := ((List.range m).filter (quietN xs)).map fun q => ((q : Nat) : Int)
theorem quietL_yes {xs : List Int} {m : Nat} (h : quietN xs m = true) : quietL xs (m + 1) = quietL xs m ++ [((m : Nat) : Int)] := by
  unfold quietL; rw [List.range_succ, List.filter_append]; simp [h]
theorem quietL_no {xs : List Int} {m : Nat} (h : quietN xs m = false) : quietL xs (m + 1) = quietL xs m := by
  unfold quietL; rw [List.range_succ, List.filter_append]; simp [h]
theorem quietL_len (xs : List Int) (m : Nat) : (quietL xs m).length ≤ m := by
  unfold quietL; rw [List.length_map]; have := List.length_filter_le (quietN xs) (List.range m); rwa [List.length_range] at this
theorem quietL_at {xs : List Int} {m k : Nat} {x : Int} (h : (quietL xs m)[k]? = some x) : ∃ q : Nat, x = (q : Int) ∧ q < m ∧ quietN xs q = true := by
  have := List.mem_of_getElem? h
  unfold quietL at this
  obtain ⟨q, hq, rfl⟩ := List.mem_map.1 this
  obtain ⟨h1, h2⟩ := List.mem_filter.1 hq
  exact ⟨q, rfl, List.mem_range.1 h1, h2⟩
theorem quietL_mem {xs : List Int} {m q : Nat} (h : q < m) (hq : quietN xs q = true) : ((q : Nat) : Int) ∈ quietL xs m :=
  List.mem_map.2 ⟨q, List.mem_filter.2 ⟨List.mem_range.2 h, hq⟩, rfl⟩
theorem pow9 {n : Nat} (h : n ≤ 9) : 1 ≤ 2 ^ n ∧ 2 ^ n ≤ 512 ∧ (2 : Int) ^ n = ((2 ^ n : Nat) : Int) := by
  have h1 := Nat.two_pow_pos n
  have h2 : (2 : Nat) ^ n ≤ 2 ^ 9 := Nat.pow_le_pow_right (by omega) h
  exact ⟨by omega, by omega, by push_cast; rfl⟩
set_option maxRecDepth 100000 in
set_option maxHeartbeats 1000000 in
theorem quietSets_impl (A : Option Addr) (n c : Nat) (xs : List Int) (w : World) (h : RdI .i64 w w.heap.size A n c xs) (hok : graphOk xs = true) :
    Calls Try.prog 41 #[.agg #[.slice A n c]] w (Gives w id fun v => [rInts v (quietL xs (2 ^ n))]) := by
  have HL := Lib.hid h.len
  have hn9 : n ≤ 9 := by rw [← HL.out]; exact (graphOk_len xs hok).2
  have HS0 := Lib.hid ((St.refl w).alloc #[.slice A n c] 25)
  have H := Lib.hid h
  have HOK := Lib.hid hok
  obtain ⟨hP1, hP2, hP3⟩ := pow9 hn9
  have hw := wrap_pow n (by omega)
  obtain ⟨P, hP⟩ : ∃ P, 2 ^ n = P := ⟨_, rfl⟩
  rw [hP] at hP1 hP2 hP3 ⊢
  rw [hP3] at hw
  clear h hok hP
  go_enter Try.func41, Try.ntmps41
  go_wp2_with fail
  refine (graphValid_impl A n c xs _ (H.out.up HS0.out.below)).mono ?_
  rw [HOK.out]
  rintro e w1 ⟨rfl, hb1⟩
  have HS1 : Hid (St w w1 [rBlk w.heap.size 25 #[.slice A n c], rInts (.slice none 0 0) []]) := Lib.hid ((HS0.out.quiet hb1).call (rInts_nil w1 w1 (Below.refl _ _)))
  have q1 : ∀ j, w1.cell? ⟨w.heap.size, j, none⟩ = _ := HS1.out.cells 0 rfl
  clear hb1 HS0
  go_wp2
  go_loopw [3, 12] (fun qv i wr => ∃ (k : Nat) (Q : Option Addr) (m d : Nat), k ≤ P ∧ i = .int .i64 k ∧ qv = .slice Q m d ∧ Hid ((quietL xs k).length = m) ∧ St w wr [rBlk w.heap.size 25 #[.slice A n c], rInts (.slice Q m d) (quietL xs k)]) (fun _ i _ => P - (intOf i).toNat)
  case atStart => exact ⟨0, none, 0, 0, by omega, by first | rfl | (rw [hw]; rfl), rfl, Lib.hid rfl, HS1.out⟩
  case round =>
    clear HS1 q1
    obtain ⟨k, Q, m, d, hk, rfl, rfl, HM, S⟩ := hrel
    have HS := Lib.hid S
    clear S
    by_cases hlt : k < P
    · have q1 : ∀ j, wr.cell? ⟨w.heap.size, j, none⟩ = _ := HS.out.cells 0 rfl
      go_wp2_with fail
      refine (pressesChange_any A n c xs k _ (H.out.up HS.out.below) HOK.out (by omega)).mono ?_
      rintro e w3 ⟨rfl, hb3⟩
      have HS3 := Lib.hid (HS.out.quiet hb3)
      clear hb3 HS q1
      obtain ⟨y, hy⟩ : ∃ y, pressN xs k n = y := ⟨_, rfl⟩
      have HQ : Bx (quietN xs k = (y == 0)) := Bx.mk (by unfold quietN; rw [HL.out, ← hy]; rfl)
      rw [hy]
      clear hy
      by_cases hy0 : y = 0
      · have HQ2 : Bx (quietL xs (k + 1) = quietL xs k ++ [((k : Nat) : Int)]) := Bx.mk (quietL_yes (by rw [HQ.out, hy0]; rfl))
        have HM2 : Hid ((quietL xs (k + 1)).length = m + 1) := Lib.hid (by rw [HQ2.out, List.length_append, HM.out]; rfl)
        have hy1 : (y : Int) = 0 := by omega
        have hm := quietL_len xs k
        rw [HM.out] at hm
        have HROW : Hid (w3.ownsRow 0 3 1 (.slice Q m d) m (ints (quietL xs k))) := Lib.hid (by have := HS3.out.ownI 1 rfl; rwa [HM.out] at this)
        have HAP : Hid (∀ v4 w4, w4.ownsRow 0 3 1 v4 (m + 1) (ints (quietL xs k) ++ [Value.int .i64 ((k : Nat) : Int)]) → (w3.alloc (.cells #[.int .i64 ((k : Nat) : Int)] 3)).grownBy w4 (Value.slice Q m d).ownBlock → (v4.ownBlock = (Value.slice Q m d).ownBlock ∨ v4.ownBlock = some (w3.alloc (.cells #[.int .i64 ((k : Nat) : Int)] 3)).heap.size) → St w w4 [rBlk w.heap.size 25 #[.slice A n c], rInts v4 (quietL xs (k + 1))]) :=
          Lib.hid fun v4 w4 h1 h2 h3 => by
            rw [HQ2.out]
            exact St.appI (v := .slice Q m d) (xs := quietL xs k) (ys := [((k : Nat) : Int)]) ((HS3.out.alloc #[.int .i64 ((k : Nat) : Int)] 3).pick [0, 1] (by decide) rfl rfl) 1 rfl (by rw [HM.out]; rfl) h1 (by intro y hy; simp at hy; subst hy; exact wf_i64_mk (by omega)) h2 h3
        subst hy0
        go_wp2_with (at_builtin; refine wp_app elInt rfl _ _ rfl 0 (.slice Q m d) m (ints (quietL xs k)) rfl (HROW.out.alloc _) _ _ 1 1 [.int .i64 ((k : Nat) : Int)] rfl (RdRow.new w3 [.int .i64 ((k : Nat) : Int)] 3 1 1 rfl (by unfold maxLen; omega)) (by simp [Value.oneCell']) (by omega) (by omega) (Nat.zero_le _) ?_; intro v4 w4 hown4 hg4 hat4; obtain ⟨A4, c4, hv4⟩ := own_form hown4; subst hv4; have HS6 := Lib.hid (HAP.out _ w4 hown4 hg4 hat4); clear hown4 hg4 hat4)
        go_roundw
        case rel => exact ⟨k + 1, A4, m + 1, c4, by omega, by go_num, rfl, HM2, HS6.out⟩
        case measure => simp [intOf]; omega
      · have hne : ((y : Int) == 0) = false := beq_false_of_ne (by omega)
        have HQ2 : Bx (quietL xs (k + 1) = quietL xs k) := Bx.mk (quietL_no (by rw [HQ.out]; exact beq_false_of_ne hy0))
        have HS4 : Hid (St w w3 [rBlk w.heap.size 25 #[.slice A n c], rInts (.slice Q m d) (quietL xs (k + 1))]) := Lib.hid (by rw [HQ2.out]; exact HS3.out)
        have HM2 : Hid ((quietL xs (k + 1)).length = m) := Lib.hid (by rw [HQ2.out]; exact HM.out)
        clear HS3 hy0
        go_wp2
        go_roundw
        case rel => exact ⟨k + 1, Q, m, d, by omega, by go_num, rfl, HM2, HS4.out⟩
        case measure => simp [intOf]; omega
    · have hkn : k = P := by omega
      have HF : Hid (St w wr [rInts (.slice Q m d) (quietL xs P)]) := Lib.hid (by rw [← hkn]; exact HS.out.pick [1] (by decide) rfl rfl)
      clear hkn
      go_wp2
      go_ret
      exact ⟨_, rfl, HF.out⟩
end Go.Proofs.Ytfgebdioffeliaa
