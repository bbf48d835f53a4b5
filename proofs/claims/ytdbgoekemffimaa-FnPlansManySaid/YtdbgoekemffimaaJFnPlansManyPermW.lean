/- PermValid, the naming of sets and of codes, of the program and of the reference. -/
import Derived.Test.YtdbgoekemffimaaJFnPlansMany6
import Derived.Test.YtdbgoekemffimaaJFnPlansMany7
namespace Go.Proofs.Ytdbgoekemffimaa
set_option linter.unusedVariables false
open Go.ChangeShapes Go.WideShapes Go.ChangeAt Go.RowKit
theorem rdI_take {k : IntKind} {w : World} {B : Nat} {A : Option Addr} {n c : Nat} {xs : List Int} (h : RdI k w B A n c xs) (m : Nat) (hm : m ≤ n) : RdI k w B A m c (xs.take m) :=
  ⟨by rw [List.length_take, h.len]; omega, by have := h.cap; omega, h.capMax, fun x hx => h.wf x (List.mem_of_mem_take hx), fun hp => by
    obtain ⟨b, off, e, hb, hc⟩ := h.at_ (by omega)
    refine ⟨b, off, e, hb, fun i x hx => hc i x ?_⟩
    rw [List.getElem?_take] at hx
    split at hx
    · exact hx
    · cases hx⟩

theorem l1Has_any (A : Option Addr) (n c : Nat) (xs : List Int) (x : Int) (w : World) (h : RdI .i64 w w.heap.size A n c xs) :
    Calls Try.prog 125 #[.slice A n c, .int .i64 x] w fun e w' => e = .returned (.bool (decide (x ∈ xs))) ∧ w = w' := by
  have hc := h.cap
  have hm := h.capMax
  unfold maxLen at hm
  have HL := Lib.hid h.len
  go_enter Try.func125, Try.ntmps125
  go_wp2
  go_loop [5] (fun i => ∃ k : Nat, k ≤ n ∧ i = .int .i64 k ∧ Hid (x ∉ xs.take k)) (fun i => n - (intOf i).toNat)
  case atStart => exact ⟨0, by omega, rfl, Lib.hid (by simp)⟩
  case round =>
    obtain ⟨k, hk, rfl, hno⟩ := hrel
    by_cases hlt : k < n
    · obtain ⟨b, off, y, rfl, hb, hx, hw, hc⟩ := h.get hlt
      have HX := Lib.hid hx
      clear hx
      by_cases he : y = x
      · have HM := Lib.hid (List.mem_of_getElem? HX.out)
        subst he
        go_wp2
        go_ret
        exact ⟨ret_bool (decide_eq_true HM.out).symm, rfl⟩
      · have hne : (y == x) = false := by simpa using he
        have HN : Hid (x ∉ xs.take (k + 1)) := Lib.hid (by
          rw [take_succ' HX.out, List.mem_append]
          rintro (h | h)
          · exact hno.out h
          · exact he (List.mem_singleton.1 h).symm)
        clear he
        go_wp2
        go_round
        case rel => exact ⟨k + 1, by omega, by go_num, HN⟩
        case measure => simp [intOf]; omega
    · have hkn : k = n := by omega
      have HF : Hid (x ∉ xs) := Lib.hid (by have := hno.out; rw [hkn, ← HL.out, List.take_length] at this; exact this)
      clear hkn
      go_wp2
      go_ret
      exact ⟨ret_bool (decide_eq_false HF.out).symm, rfl⟩
theorem permValid_impl (A : Option Addr) (n c : Nat) (p : List Int) (w : World) (h : RdI .i64 w w.heap.size A n c p) :
    Calls Try.prog 93 #[.slice A n c] w fun e w' => e = .returned (.bool (permOk p)) ∧ w = w' := by
  have hc := h.cap
  have hm := h.capMax
  unfold maxLen at hm
  have HL := Lib.hid h.len
  by_cases hn : 1 ≤ n ∧ n ≤ 5
  · obtain ⟨hn1, hn2⟩ := hn
    go_enter Try.func93, Try.ntmps93
    go_wp2
    go_loop [16, 3] (fun i sv => ∃ k M : Nat, k ≤ n ∧ i = .int .i64 k ∧ sv = .int .i64 M ∧ M < 32 ∧ Hid (M = mset (seenP (p.take k)) 5) ∧ Hid (∀ (j : Nat) x, j < k → p[j]? = some x → (0 ≤ x ∧ x < p.length) ∧ x ∉ p.take j)) (fun i _ => n - (intOf i).toNat)
    case atStart => exact ⟨0, 0, by omega, rfl, rfl, by omega, Lib.hid (seenP_nil 5).symm, Lib.hid fun j x hj => absurd hj (by omega)⟩
    case round =>
      obtain ⟨k, M, hk, rfl, rfl, hM, HM, HA⟩ := hrel
      by_cases hlt : k < n
      · obtain ⟨b, off, x, rfl, hb, hx, hw, hc⟩ := h.get hlt
        have HX := Lib.hid hx
        clear hx
        by_cases h0 : x < 0
        · have HF := Lib.hid (permOk_out p k x HX.out (by omega))
          go_wp2
          go_ret
          exact ⟨ret_bool HF.out.symm, rfl⟩
        obtain ⟨m, rfl⟩ := Int.eq_ofNat_of_zero_le (show 0 ≤ x by omega)
        by_cases h1 : n ≤ m
        · have HF := Lib.hid (permOk_out p k m HX.out (by rw [HL.out]; omega))
          go_wp2
          go_ret
          exact ⟨ret_bool HF.out.symm, rfl⟩
        have hbit := and_one M m (by omega)
        have HB : Hid ((bit M m == 1) = decide ((m : Int) ∈ p.take k)) := Lib.hid (by rw [HM.out, bit_mset1 _ (by omega)]; rfl)
        by_cases hs : bit M m = 1
        · have HF := Lib.hid (permOk_twice p k m HX.out (by have := HB.out; rw [hs] at this; exact of_decide_eq_true this.symm))
          rw [hs] at hbit
          go_wp2
          go_ret
          exact ⟨ret_bool HF.out.symm, rfl⟩
        · have hs0 : bit M m = 0 := by have := bit_lt M m; omega
          rw [hs0] at hbit
          have HNM : Hid ((m : Int) ∉ p.take k) := Lib.hid (by have := HB.out; rw [hs0] at this; exact of_decide_eq_false this.symm)
          have hpw := wrap_pow m (by omega)
          obtain ⟨M2, hM2⟩ : ∃ M2, M ||| 2 ^ m = M2 := ⟨_, rfl⟩
          have hpm : 2 ^ m < 32 := Nat.pow_lt_pow_right (a := 2) (n := 5) (by omega) (by omega)
          have hor : bits .or .i64 (M : Int) (2 ^ m) = (M2 : Int) := by
            have := i64_or_nat M (2 ^ m) (by omega) (by omega)
            rw [hM2] at this
            simpa using this
          have hM2l : M2 < 32 := by rw [← hM2]; exact Nat.or_lt_two_pow (n := 5) hM hpm
          have HM2 : Hid (M2 = mset (seenP (p.take (k + 1))) 5) := Lib.hid (by rw [← hM2, seenP_step p k m HX.out 5 (by omega), ← HM.out])
          clear hM2 hs hs0
          go_wp2
          go_round
          case rel => exact ⟨k + 1, M2, by omega, by go_num, rfl, hM2l, HM2, Lib.hid fun j x hj hx => by
            rcases Nat.lt_or_ge j k with e | e
            · exact HA.out j x e hx
            · have e' : j = k := by omega
              subst e'
              have := HX.out.symm.trans hx
              injection this with this
              subst this
              exact ⟨⟨by omega, by rw [HL.out]; omega⟩, HNM.out⟩⟩
          case measure => simp [intOf]; omega
      · have hkn : k = n := by omega
        have HF := Lib.hid (permOk_good p (by rw [HL.out]; exact ⟨hn1, hn2⟩) fun j x hx => HA.out j x (by have := (List.getElem?_eq_some_iff.1 hx).1; have := HL.out; omega) hx)
        clear hkn
        go_wp2
        go_ret
        exact ⟨ret_bool HF.out.symm, rfl⟩
  · have HF := Lib.hid (permOk_len p (by rw [HL.out]; exact hn))
    go_enter Try.func93, Try.ntmps93
    go_wp2
    all_goals first | (exfalso; omega) | go_ret
    all_goals exact ⟨ret_bool HF.out.symm, rfl⟩
theorem permValid_spec (A : Option Addr) (n c : Nat) (p : List Int) (w : World) (h : RdI .i64 w w.heap.size A n c p) :
    Calls Try.prog 96 #[.slice A n c] w fun e w' => e = .returned (.bool (permOk p)) ∧ Below w.heap.size w w' := by
  have hc := h.cap
  have hm := h.capMax
  unfold maxLen at hm
  have HL := Lib.hid h.len
  go_enter Try.func96, Try.ntmps96
  go_wp2
  go_loopw [3] (fun i wr => ∃ k : Nat, k ≤ n ∧ i = .int .i64 k ∧ RdI .i64 wr w.heap.size A n c p ∧ Below w.heap.size w wr ∧ Hid (∀ (j : Nat) x, j < k → p[j]? = some x → (0 ≤ x ∧ x < p.length) ∧ x ∉ p.take j)) (fun i _ => n - (intOf i).toNat)
  case atStart => exact ⟨0, by omega, rfl, h, Below.refl _ _, Lib.hid fun j x hj => absurd hj (by omega)⟩
  case round =>
    obtain ⟨k, hk, rfl, hr, hbel, HA⟩ := hrel
    have HBE := Lib.hid hbel
    clear hbel
    by_cases hlt : k < n
    · have HR := Lib.hid hr
      obtain ⟨b, off, x, rfl, hb, hx, hw, hc⟩ := hr.get hlt
      clear hr
      have HX := Lib.hid hx
      clear hx
      by_cases hin : 0 ≤ x ∧ x < n
      case neg =>
        have HF := Lib.hid (permOk_out p k x HX.out (by rw [HL.out]; exact hin))
        have HC := Lib.hid (fun w => l1In_no x 0 ((n : Int) - 1) w (by omega))
        clear hin
        go_upto_region 4 with (fail)
        go_quiet ((go_at_call 107; with_reducible exact quiet_left (HC.out _)))
        go_wp2
        go_ret
        exact ⟨ret_bool HF.out.symm, HBE.out.trans (below_drewN (Below.refl _ _) _)⟩
      obtain ⟨h0, h1⟩ := hin
      have HC := Lib.hid (fun w => l1In_yes x 0 ((n : Int) - 1) w (by omega) (by omega))
      have HD := Lib.hid (fun q => l1Has_any (some ⟨b, off, none⟩) k c (p.take k) x (wr.drewN q) (((rdI_take (HR.out.more HBE.out.size) k (by omega)).up (below_drewN (Below.refl _ _) q))))
      obtain ⟨bh, hbh⟩ : ∃ b, decide (x ∈ p.take k) = b := ⟨_, rfl⟩
      have HBH := Lib.hid hbh
      rw [hbh] at HD
      clear hbh
      cases bh with
      | true =>
        have HF := Lib.hid (permOk_twice p k x HX.out (of_decide_eq_true HBH.out))
        go_upto_region 4 with (fail)
        go_quiet (first | (go_at_call 107; with_reducible exact quiet_left (HC.out _)) | (go_at_call 125; with_reducible exact quiet_left (HD.out _)))
        go_wp2
        go_ret
        exact ⟨ret_bool HF.out.symm, HBE.out.trans (below_drewN (Below.refl _ _) _)⟩
      | false =>
        go_upto_region 4 with (fail)
        go_quiet (first | (go_at_call 107; with_reducible exact quiet_left (HC.out _)) | (go_at_call 125; with_reducible exact quiet_left (HD.out _)))
        go_wp2
        go_roundw
        case rel => exact ⟨k + 1, by omega, by go_num, HR.out.below (below_drewN (Below.refl _ _) _), HBE.out.trans (below_drewN (Below.refl _ _) _), Lib.hid fun j x' hj hx => by
            rcases Nat.lt_or_ge j k with e | e
            · exact HA.out j x' e hx
            · have e' : j = k := by omega
              subst e'
              have := HX.out.symm.trans hx
              injection this with this
              subst this
              exact ⟨⟨by omega, by rw [HL.out]; omega⟩, of_decide_eq_false HBH.out⟩⟩
        case measure => simp [intOf]; omega
    · have hkn : k = n := by omega
      have HF := Lib.hid (permOk_any p fun j x hx => HA.out j x (by have := (List.getElem?_eq_some_iff.1 hx).1; have := HL.out; omega) hx)
      clear hkn
      go_wp2_with fail
      refine (l1In_any (n : Int) 1 5 _).mono ?_
      rintro e w' ⟨rfl, rfl⟩
      go_wp2
      go_ret
      exact ⟨ret_bool (by rw [HF.out, HL.out, Bool.eq_iff_iff]; simp; omega), HBE.out⟩
end Go.Proofs.Ytdbgoekemffimaa
