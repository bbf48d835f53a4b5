/- besideUnion, AloneMost, CoverLeast of the program. Printed by gen_cover.py. -/
import Derived.Test.YtdbgoekemffimaaSGraph
import Derived.Test.YtdbgoekemffimaaSSz
import Derived.Test.YtdbgoekemffimaaSReg
namespace Go.Proofs.Ytdbgoekemffimaa
set_option linter.unusedVariables false
set_option linter.unusedSimpArgs false
open Go.ChangeShapes Go.WideShapes Go.ChangeAt Go.RowKit

/-- the points beside those of a set, of the first k points -/
def unionK (xs : List Int) (set : Nat) : Nat → Nat
  | 0 => 0
  | k + 1 => if bit set k = 1 then unionK xs set k ||| (xs.getD k 0).toNat else unionK xs set k
theorem unionK_lt {xs : List Int} (hok : graphOk xs = true) (set : Nat) : ∀ k, k ≤ xs.length → unionK xs set k < 512 := by
  intro k
  induction k with
  | zero => intro _; simp [unionK]
  | succ k ih =>
    intro hk
    have h1 := ih (by omega)
    obtain ⟨x, hx⟩ : ∃ x, xs[k]? = some x := ⟨_, List.getElem?_eq_getElem (by omega)⟩
    have hxd : xs.getD k 0 = x := by rw [List.getD, hx]; rfl
    have h2 := graphOk_at xs hok k x hx
    have h3 : x < 512 := by
      have : (2 : Int) ^ xs.length ≤ 2 ^ 9 := pow_le_int _ _ (graphOk_len xs hok).2
      omega
    simp only [unionK]
    split
    · rw [hxd]
      exact Nat.or_lt_two_pow (n := 9) h1 (by omega)
    · exact h1
/-- the greatest number of points without a line, of the sets below m -/
def aloneK (xs : List Int) : Nat → Nat
  | 0 => 0
  | s + 1 => if unionK xs s xs.length &&& s = 0 then max (aloneK xs s) (popc s) else aloneK xs s
theorem aloneK_le (xs : List Int) (m : Nat) : aloneK xs m ≤ m := by
  induction m with
  | zero => simp [aloneK]
  | succ m ih =>
    simp only [aloneK]
    split
    · have := popc_le m; omega
    · omega
def aloneMost (xs : List Int) : Int := if graphOk xs then (aloneK xs (2 ^ xs.length) : Nat) else -1
def coverLeast (xs : List Int) : Int := if graphOk xs then (xs.length : Int) - (aloneK xs (2 ^ xs.length) : Nat) else -1
set_option maxRecDepth 100000 in
theorem besideUnion_impl (A : Option Addr) (n c : Nat) (xs : List Int) (set : Nat) (hs : set < 512) (w : World) (h : RdI .i64 w w.heap.size A n c xs) (hok : graphOk xs = true) :
    Calls Try.prog 124 #[.agg #[.slice A n c], .int .i64 (set : Nat)] w fun e w' => e = .returned (.int .i64 (unionK xs set n : Nat)) ∧ Below w.heap.size w w' := by
  have hlen := h.len
  have hcap := h.cap
  have hmax := h.capMax
  unfold maxLen at hmax
  obtain ⟨hn1, hn9⟩ := graphOk_len xs hok
  rw [hlen] at hn1 hn9
  obtain ⟨b, off, rfl, hb, hcell⟩ := h.at_ (by omega)
  have HC := Lib.hid hcell; clear hcell
  have HL := Bx.mk hlen; clear hlen
  have HU : Hid (∀ k, k ≤ n → unionK xs set k < 512) := Lib.hid fun k hk => unionK_lt hok set k (by rw [HL.out]; exact hk)
  have HAT := Lib.hid (graphOk_at xs hok)
  have HP : Hid ((2 : Int) ^ xs.length ≤ 512) := Lib.hid (pow_le_int _ _ (graphOk_len xs hok).2)
  clear h hok
  go_enter Try.func124, Try.ntmps124
  go_wp2
  go_loop [11, 5] (fun i s => ∃ k u : Nat, k ≤ n ∧ i = .int .i64 k ∧ s = .int .i64 u ∧ Bx (unionK xs set k = u)) (fun i _ => n - (intOf i).toNat)
  case atStart => exact ⟨0, 0, by omega, rfl, rfl, Bx.mk rfl⟩
  case round =>
    obtain ⟨k, u, hk, rfl, rfl, HK⟩ := hrel
    have hu : u < 512 := by rw [← HK.out]; exact HU.out k hk
    by_cases hlt : k < n
    · obtain ⟨x, hx⟩ : ∃ x, xs[k]? = some x := ⟨_, List.getElem?_eq_getElem (by rw [HL.out]; exact hlt)⟩
      have hc := HC.out k x hx
      have hx01 := HAT.out k x hx
      have hx1 : x < 512 := by have := HP.out; omega
      obtain ⟨m, rfl⟩ := Int.eq_ofNat_of_zero_le hx01.1
      have hxd : (xs.getD k 0).toNat = m := by rw [List.getD, hx]; rfl
      have HXD := Bx.mk hxd
      clear hx hxd hx01
      have hki : (k : Int) < (n : Int) := by omega
      have hbit := and_one set k (by omega)
      have hor := i64_or_nat u m (by omega) (by omega)
      have hbl := bit_lt set k
      obtain ⟨bt, hbt⟩ : ∃ y, bit set k = y := ⟨_, rfl⟩
      rw [hbt] at hbit hbl
      have HB := Bx.mk hbt
      clear hbt
      by_cases hb1 : bt = 1
      · subst hb1
        go_wp2
        go_round
        case rel => exact ⟨k + 1, u ||| m, by omega, by go_num, rfl, Bx.mk (by simp only [unionK]; rw [if_pos HB.out, HK.out, HXD.out])⟩
        case measure => simp [intOf]; omega
      · obtain rfl : bt = 0 := by omega
        go_wp2
        go_round
        case rel => exact ⟨k + 1, u, by omega, by go_num, rfl, Bx.mk (by simp only [unionK]; rw [if_neg (by rw [HB.out]; omega), HK.out])⟩
        case measure => simp [intOf]; omega
    · obtain rfl : k = n := by omega
      go_wp2
      go_ret
      exact ⟨ret_int (by rw [HK.out]), (Below.refl _ _).alloc (Nat.le_refl _) _⟩
set_option maxRecDepth 100000 in
theorem aloneMost_impl (A : Option Addr) (n c : Nat) (xs : List Int) (w : World) (h : RdI .i64 w w.heap.size A n c xs) :
    Calls Try.prog 91 #[.agg #[.slice A n c]] w fun e w' => e = .returned (.int .i64 (aloneMost xs)) ∧ Below w.heap.size w w' := by
  have hlen := h.len
  have hcap := h.cap
  have hmax := h.capMax
  unfold maxLen at hmax
  have HL := Bx.mk hlen; clear hlen
  have H := Lib.hid h; clear h
  obtain ⟨go, hgo⟩ : ∃ y, graphOk xs = y := ⟨_, rfl⟩
  have HG := Bx.mk hgo
  have HB0 : Hid (Below w.heap.size w (w.alloc (.cells #[.slice A n c] 37))) := Lib.hid ((Below.refl _ _).alloc (Nat.le_refl _) _)
  have hn9 : go = true → n ≤ 9 := fun e => by rw [← HL.out]; exact (graphOk_len xs (hgo.trans e)).2
  have HAM : Bx (aloneMost xs = if go then ((aloneK xs (2 ^ n) : Nat) : Int) else -1) := Bx.mk (by unfold aloneMost; rw [hgo, HL.out])
  clear hgo
  have S1 : Hid (St w (w.alloc (.cells #[.slice A n c] 37)) [rBlk w.heap.size 37 #[.slice A n c]]) := Lib.hid (St.new1 w _ _)
  go_enter Try.func91, Try.ntmps91
  go_wp2_with fail
  refine (graphValid_impl A n c xs _ (H.out.up HB0.out)).mono ?_
  rw [HG.out]
  rintro e w1 ⟨rfl, hb1⟩
  have HS1 := Lib.hid (S1.out.quiet hb1)
  have q1 : ∀ j, w1.cell? ⟨w.heap.size, j, none⟩ = _ := HS1.out.cells 0 rfl
  clear hb1 S1
  cases go with
  | false =>
    go_wp2
    go_ret
    exact ⟨ret_int (by rw [HAM.out]; rfl), HS1.out.below⟩
  | true =>
    have hn := hn9 rfl
    obtain ⟨M, hM⟩ : ∃ M : Nat, 2 ^ n = M := ⟨_, rfl⟩
    have hMi : (2 : Int) ^ n = (M : Int) := by rw [← hM]; simp
    have hM9 : M ≤ 512 := by rw [← hM]; exact Nat.pow_le_pow_right (n := 2) (by omega) hn
    have hw : IntKind.i64.wrap (M : Int) = (M : Int) := by rw [IntKind.wrap_i64] <;> omega
    rw [hM] at HAM
    clear hM hn9
    go_wp2
    go_loopw [12, 3] (fun i s wr => ∃ k u : Nat, k ≤ M ∧ i = .int .i64 k ∧ s = .int .i64 u ∧ Bx (aloneK xs k = u) ∧ St w wr [rBlk w.heap.size 37 #[.slice A n c]]) (fun i _ _ => M - (intOf i).toNat)
    case atStart => exact ⟨0, 0, by omega, rfl, rfl, Bx.mk rfl, HS1.out⟩
    case round =>
      clear HS1 q1
      obtain ⟨k, u, hk, rfl, rfl, HK, S⟩ := hrel
      have HS := Lib.hid S
      have q1 : ∀ j, wr.cell? ⟨w.heap.size, j, none⟩ = _ := S.cells 0 rfl
      clear S
      have hu : u ≤ 512 := by have := aloneK_le xs k; rw [HK.out] at this; omega
      by_cases hlt : k < M
      · have hki : (k : Int) < (M : Int) := by omega
        have hk512 : k < 512 := by omega
        obtain ⟨v, hv⟩ : ∃ v, unionK xs k n = v := ⟨_, rfl⟩
        have HV := Bx.mk hv
        have hv9 : v < 512 := by rw [← hv]; exact unionK_lt HG.out k n (by rw [HL.out]; exact Nat.le_refl _)
        clear hv
        go_wp2_with fail
        refine (besideUnion_impl A n c xs k hk512 _ (H.out.up HS.out.below) HG.out).mono ?_
        rw [HV.out]
        rintro e w2 ⟨rfl, hb2⟩
        have HS2 := Lib.hid (HS.out.quiet hb2)
        clear hb2 HS q1
        have hand := i64_and_nat v k (by omega) (by omega)
        obtain ⟨vk, hvk⟩ : ∃ y, v &&& k = y := ⟨_, rfl⟩
        rw [hvk] at hand
        have HVK := Bx.mk hvk
        clear hvk
        by_cases h0 : vk = 0
        · subst h0
          obtain ⟨pc, hpc⟩ : ∃ y, popc k = y := ⟨_, rfl⟩
          have HPC := Bx.mk hpc
          have hpk : pc ≤ 512 := by have := popc_le k; omega
          clear hpc
          go_wp2_with fail
          refine (countBits_nat k (by omega) _).mono ?_
          rw [HPC.out]
          rintro e w3 ⟨rfl, rfl⟩
          by_cases hmx : u ≤ pc
          · have hmi : (u : Int) ≤ (pc : Int) := by omega
            go_wp2
            go_roundw
            case rel => exact ⟨k + 1, pc, by omega, by go_num, by go_num, Bx.mk (by simp only [aloneK]; rw [HL.out, HV.out, if_pos HVK.out, HK.out, HPC.out]; omega), HS2.out⟩
            case measure => simp [intOf]; omega
          · have hmi : ¬ (u : Int) ≤ (pc : Int) := by omega
            go_wp2
            go_roundw
            case rel => exact ⟨k + 1, u, by omega, by go_num, by go_num, Bx.mk (by simp only [aloneK]; rw [HL.out, HV.out, if_pos HVK.out, HK.out, HPC.out]; omega), HS2.out⟩
            case measure => simp [intOf]; omega
        · have h0i : ¬ (vk : Int) = 0 := by omega
          go_wp2
          go_roundw
          case rel => exact ⟨k + 1, u, by omega, by go_num, rfl, Bx.mk (by simp only [aloneK]; rw [HL.out, HV.out, HVK.out, if_neg h0, HK.out]), HS2.out⟩
          case measure => simp [intOf]; omega
      · obtain rfl : k = M := by omega
        have hki : ¬ (k : Int) < (k : Int) := by omega
        go_wp2
        go_ret
        exact ⟨ret_int (by rw [HAM.out, HK.out]; rfl), HS.out.below⟩
set_option maxHeartbeats 400000 in
set_option maxRecDepth 100000 in
theorem coverLeast_impl (A : Option Addr) (n c : Nat) (xs : List Int) (w : World) (h : RdI .i64 w w.heap.size A n c xs) :
    Calls Try.prog 38 #[.agg #[.slice A n c]] w fun e w' => e = .returned (.int .i64 (coverLeast xs)) ∧ Below w.heap.size w w' := by
  have hlen := h.len
  have hcap := h.cap
  have hmax := h.capMax
  unfold maxLen at hmax
  have HL := Bx.mk hlen; clear hlen
  have H := Lib.hid h; clear h
  obtain ⟨go, hgo⟩ : ∃ y, graphOk xs = y := ⟨_, rfl⟩
  have HG := Bx.mk hgo
  have HB0 : Hid (Below w.heap.size w (w.alloc (.cells #[.slice A n c] 37))) := Lib.hid ((Below.refl _ _).alloc (Nat.le_refl _) _)
  have S1 : Hid (St w (w.alloc (.cells #[.slice A n c] 37)) [rBlk w.heap.size 37 #[.slice A n c]]) := Lib.hid (St.new1 w _ _)
  clear hgo
  go_enter Try.func38, Try.ntmps38
  go_wp2_with fail
  refine (graphValid_impl A n c xs _ (H.out.up HB0.out)).mono ?_
  rw [HG.out]
  rintro e w1 ⟨rfl, hb1⟩
  have HS1 := Lib.hid (S1.out.quiet hb1)
  clear hb1 S1
  cases go with
  | false =>
    go_wp2
    go_ret
    exact ⟨ret_int (by unfold coverLeast; rw [HG.out]; rfl), HS1.out.below⟩
  | true =>
    obtain ⟨al, hal⟩ : ∃ y, aloneK xs (2 ^ xs.length) = y := ⟨_, rfl⟩
    have hn9 : n ≤ 9 := by rw [← HL.out]; exact (graphOk_len xs HG.out).2
    have hal9 : al ≤ 512 := by
      have h1 := aloneK_le xs (2 ^ xs.length)
      have h2 : 2 ^ xs.length ≤ 2 ^ 9 := Nat.pow_le_pow_right (by omega) (graphOk_len xs HG.out).2
      omega
    have HAL : Bx (aloneMost xs = (al : Int)) := Bx.mk (by unfold aloneMost; rw [HG.out, hal]; rfl)
    have HCV : Bx ((n : Int) - (al : Int) = coverLeast xs) := Bx.mk (by unfold coverLeast; rw [HG.out, hal, HL.out]; rfl)
    have HW : Bx (IntKind.i64.wrap ((n : Int) - (al : Int)) = (n : Int) - (al : Int)) := Bx.mk (by rw [IntKind.wrap_i64] <;> omega)
    clear hal
    go_upto_region 3 with (fail)
    refine wp_reg (σ := Unit) (by kernel_rfl) (by kernel_rfl) (by kernel_rfl)
      (fun s i => match i with
        | 0 => .pointer (some ⟨w.heap.size, 0, none⟩)
        | 1 => .slice A n c
        | 2 => .int .i64 (n : Int)
        | 3 => .agg #[.slice A n c]
        | 4 => .int .i64 (al : Nat)
        | 5 => .int .i64 ((n : Int) - (al : Int))
        | 6 => .int .i64 ((n : Int) - (al : Int))
        | _ => undef)
      (fun D s wx => Sn w wx fun i => match i with
        | 0 => some (rBlk w.heap.size 37 #[.slice A n c])
        | _ => none)
      () ?_ ?_ ?_
    · intro D hD
      refine ((Sn.of_st HS1.out).quiet ((Below.refl _ _).drew)).congr fun i => ?_
      match i with
      | 0 => rfl
      | q + 1 => rfl
    · refine StepAll.cons (fun D s wx hR (hDi : D 0 = false) hd hsh a' hs K hK => ?_) ?_
      · have e1 := hs.old 1 (u := .pointer (some ⟨w.heap.size, 0, none⟩)) (by kernel_rfl) rfl
        clear hs
        go_simp
        exact hK s wx (fun _ _ => rfl) hR
      refine StepAll.cons (fun D s wx hR (hDi : D 1 = false) hd hsh a' hs K hK => ?_) ?_
      · have e6 := hs.at_ 0 6 (u := .pointer (some ⟨w.heap.size, 0, none⟩)) rfl (hd ⟨0, .data⟩ (by simp) rfl) (by kernel_rfl) (by kernel_rfl) rfl
        clear hs
        have kb : Blk wx (w.heap.size) 37 #[.slice A n c] := hR.blk 0 rfl
        have c0 : wx.cell? ⟨w.heap.size, 0, none⟩ = some (.slice A n c) := kb.cell 0
        go_simp
        exact hK s wx (fun _ _ => rfl) hR
      refine StepAll.cons (fun D s wx hR (hDi : D 2 = false) hd hsh a' hs K hK => ?_) ?_
      · have e7 := hs.at_ 1 7 (u := .slice A n c) rfl (hd ⟨1, .data⟩ (by simp) rfl) (by kernel_rfl) (by kernel_rfl) rfl
        have g7 := getQ e7
        clear hs
        go_simp
        exact hK s wx (fun _ _ => rfl) hR
      refine StepAll.cons (fun D s wx hR (hDi : D 3 = false) hd hsh a' hs K hK => ?_) ?_
      · have e1 := hs.old 1 (u := .pointer (some ⟨w.heap.size, 0, none⟩)) (by kernel_rfl) rfl
        clear hs
        have kb : Blk wx (w.heap.size) 37 #[.slice A n c] := hR.blk 0 rfl
        have c0 : wx.cell? ⟨w.heap.size, 0, none⟩ = some (.slice A n c) := kb.cell 0
        go_simp
        exact hK s wx (fun _ _ => rfl) hR
      refine StepAll.cons (fun D s wx hR (hDi : D 4 = false) hd hsh a' hs K hK => ?_) ?_
      · have e9 := hs.at_ 3 9 (u := .agg #[.slice A n c]) rfl (hd ⟨3, .data⟩ (by simp) rfl) (by kernel_rfl) (by kernel_rfl) rfl
        have g9 := getQ e9
        clear hs
        go_simp
        refine (aloneMost_impl A n c xs _ (H.out.up hR.below)).mono ?_
        rw [HAL.out]
        rintro e2 w2 ⟨rfl, hb2⟩
        exact hK s w2 (fun _ _ => rfl) (hR.quiet hb2)
      refine StepAll.cons (fun D s wx hR (hDi : D 5 = false) hd hsh a' hs K hK => ?_) ?_
      · have e8 := hs.at_ 2 8 (u := .int .i64 (n : Int)) rfl (hd ⟨2, .data⟩ (by simp) rfl) (by kernel_rfl) (by kernel_rfl) rfl
        have e10 := hs.at_ 4 10 (u := .int .i64 (al : Nat)) rfl (hd ⟨4, .data⟩ (by simp) rfl) (by kernel_rfl) (by kernel_rfl) rfl
        clear hs
        have hw := HW.out
        go_simp
        exact hK s wx (fun _ _ => rfl) hR
      refine StepAll.cons (fun D s wx hR (hDi : D 6 = false) hd hsh a' hs K hK => ?_) ?_
      · have e11 := hs.at_ 5 11 (u := .int .i64 ((n : Int) - (al : Int))) rfl (hd ⟨5, .data⟩ (by simp) rfl) (by kernel_rfl) (by kernel_rfl) rfl
        clear hs
        go_simp
        exact hK s wx (fun _ _ => rfl) hR
      exact StepAll.nil
    · intro D s wx hR hD
      simp only [putA, Act.put, List.setIfInBounds_toArray, List.set_cons_zero, List.set_cons_succ]
      have HSZ := Lib.hid (hR.to_st (L := [rBlk w.heap.size 37 #[.slice A n c]]) [0] (by decide) rfl).below
      clear hR hD
      go_wp2
      go_ret
      exact ⟨ret_int HCV.out, HSZ.out⟩
end Go.Proofs.Ytdbgoekemffimaa
