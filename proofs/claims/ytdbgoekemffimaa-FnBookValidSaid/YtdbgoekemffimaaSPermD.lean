/- l20Perm within a list of things: it draws a row of small numbers. -/
import Derived.Test.YtdbgoekemffimaaSTDraw2
import Derived.Test.YtdbgoekemffimaaSIntS
namespace Go.Proofs.Ytdbgoekemffimaa
set_option linter.unusedVariables false
set_option linter.unusedSimpArgs false
open Go.ChangeShapes Go.WideShapes Go.ChangeAt Go.RowKit

theorem snoc_len {xs : List Int} {m : Nat} (h : xs.length = m) (y : Int) : (xs ++ [y]).length = m + 1 := by simp [h]
theorem app_len {xs : List Int} {m : Nat} (h : xs.length = m) (y : Int) : m + 1 = xs.length + [y].length := by simp [h]
theorem ownsRow_take {w : World} {base : Nat} {e : TypeId} {A : Option Addr} {n c m : Nat} {xs : List Value} (h : w.ownsRow base e 1 (.slice A n c) n xs) (hm : m ≤ n) : w.ownsRow base e 1 (.slice A m c) m (xs.take m) := by
  obtain ⟨h1, h2⟩ := h
  refine ⟨by rw [List.length_take, h1]; omega, ?_⟩
  rcases h2 with ⟨hv, hn⟩ | ⟨g, cap, cur, hv, hb, hg, h3, h4, h5, h6⟩
  · simp only [Value.slice.injEq] at hv
    obtain ⟨rfl, rfl, rfl⟩ := hv
    obtain rfl : m = 0 := by omega
    exact .inl ⟨rfl, rfl⟩
  · simp only [Value.slice.injEq] at hv
    obtain ⟨rfl, -, rfl⟩ := hv
    refine .inr ⟨g, c, cur, rfl, hb, hg, by omega, h4, h5, ?_⟩
    rw [← h6, List.take_take]
    congr 1
    omega
theorem St.cutI {w W : World} {L : List HRes} (h : St w W L) (i : Nat) {A : Option Addr} {n c m : Nat} {xs : List Int} (hi : L[i]? = some (rInts (.slice A n c) xs)) (hn : xs.length = n) (hm : m ≤ n) : St w W (L.set i (rInts (.slice A m c) (xs.take m))) :=
  h.mod i hi fun F h1 _ => ⟨F, ⟨by
    have h2 := h1.row
    rw [hn] at h2
    have h3 := ownsRow_take h2 hm
    have e : (xs.take m).length = m := by rw [List.length_take]; omega
    rw [e]
    have e2 : Go.Proofs.Ytdbgoekemffimaa.ints (xs.take m) = (Go.Proofs.Ytdbgoekemffimaa.ints xs).take m := by simp [Go.Proofs.Ytdbgoekemffimaa.ints, List.map_take]
    rw [e2]
    exact h3, fun x hx => h1.wf x (List.mem_of_mem_take hx), by rw [h1.foot]; cases A <;> rfl⟩, fun b hb => .inl hb, Only.refl _ _⟩
theorem RdI.dropAt {k : IntKind} {w : World} {B g n c : Nat} {xs : List Int} (h : RdI k w B (some ⟨g, 0, none⟩) n c xs) (m : Nat) (hm : m ≤ n) : RdI k w B (some ⟨g, m, none⟩) (n - m) (c - m) (xs.drop m) := by
  refine ⟨by rw [List.length_drop, h.len], by have := h.cap; omega, by have := h.capMax; omega, fun x hx => h.wf x (List.mem_of_mem_drop hx), fun hp => ?_⟩
  obtain ⟨b, off, e, hb, hc⟩ := h.at_ (by omega)
  simp only [Option.some.injEq, Addr.mk.injEq, and_true] at e
  obtain ⟨rfl, rfl⟩ := e
  refine ⟨_, _, rfl, hb, fun i x hx => ?_⟩
  rw [List.getElem?_drop] at hx
  have := hc (m + i) x hx
  simpa [Nat.zero_add] using this
set_option maxRecDepth 100000 in
theorem l20Perm_rd {w W : World} {L : List HRes} {g hi : Nat} (S : St w W (rRd w g hi :: L)) (hh : hi ≤ 400000000000) (n : Int) :
    Calls Try.prog 92 #[.pointer (some ⟨g, 0, none⟩), .int .i64 5, .int .i64 n] W fun e w' => ∃ v xs, e = .returned v ∧ xs.length ≤ 6 ∧ Dig xs ∧ St w w' (rRd w g (hi + 20) :: rInts v xs :: L) := by
  obtain ⟨r, hr⟩ : ∃ r, W.heap.size = r := ⟨_, rfl⟩
  have HS : Hid (St w (W.alloc (.cells #[] 3)) (rRd w g hi :: rInts (.slice (some ⟨r, 0, none⟩) 0 0) [] :: L)) := Lib.hid (by rw [← hr]; exact S.call1 (St.lit W [] 0 rfl (by simp) (by simp)))
  clear S
  go_enter Try.func92, Try.ntmps92
  go_wp2
  go_loopw [7, 8] (fun ov i wr => ∃ (k b c : Nat) (xs : List Int), k ≤ 5 ∧ i = .int .i64 k ∧ ov = .slice (some ⟨b, 0, none⟩) k c ∧ xs.length = k ∧ Dig xs ∧ St w wr (rRd w g (hi + k) :: rInts (.slice (some ⟨b, 0, none⟩) k c) xs :: L)) (fun _ i _ => 5 - (intOf i).toNat)
  case atStart => exact ⟨0, _, _, [], by omega, rfl, rfl, rfl, fun x hx => by simp at hx, by have h := HS.out; first | exact h | (rw [← hr] at h; exact h)⟩
  case round =>
    clear HS
    obtain ⟨k, b, c, xs, hk, rfl, rfl, hxl, hxd, S⟩ := hrel
    have HS := Lib.hid S
    have HXL := Lib.hid hxl
    have HXD := Lib.hid hxd
    have hkc : k ≤ c := (S.rdI' 1 rfl).cap
    have hcm : c ≤ maxLen := (S.rdI' 1 rfl).capMax
    unfold maxLen at hcm
    clear S hxl hxd
    by_cases hlt : k < 5
    · go_wp2_with fail
      refine (pick_rd HS.out (by omega) (k + 1)).mono ?_
      rintro e w2 ⟨x2, rfl, ⟨b1, b2, -⟩, s2⟩
      have b3 := b2 (by omega)
      obtain ⟨m, rfl⟩ := Int.eq_ofNat_of_zero_le b1
      have hmk : m ≤ k := by omega
      have S3 := s2.call1 (St.lit w2 [] 0 rfl (by simp) (by simp))
      have HRD := Lib.hid ((S3.rdI' 2 rfl).dropAt m hmk)
      have HO3 := Lib.hid (S3.ownI 1 rfl)
      have HS3 := Lib.hid S3
      have HDX : Hid ((xs.drop m).length = k - m) := Lib.hid (by rw [List.length_drop, HXL.out])
      have HDD : Hid (Dig (xs.drop m)) := Lib.hid fun x hx => HXD.out x (List.mem_of_mem_drop hx)
      have HTX : Hid ((xs.take m).length = m) := Lib.hid (by rw [List.length_take, HXL.out]; omega)
      clear s2 S3 b2 HS b3
      go_upto_region 6 with (fail)
      go_cut [10] (fun s10 wx => St w wx (rRd w g (hi + k + 1) :: rInts s10 (xs.drop m) :: rInts (.slice (some ⟨b, 0, none⟩) k c) xs :: L))
      case first =>
        have hmki : (m : Int) ≤ (k : Int) := by omega
        by_cases hmc : m = c
        · have hkm : k = m := by omega
          subst hkm
          subst hmc
          have HDN : Hid (xs.drop k = []) := Lib.hid (List.eq_nil_of_length_eq_zero (by rw [HDX.out]; omega))
          have HR0 : ∀ A : Option Addr, RdRow w2 0 1 A 0 0 (ints []) := fun A => ⟨rfl, Nat.le_refl _, Nat.zero_le _, fun h => absurd h (by omega)⟩
          go_wp2_with (at_builtin; refine wp_app elInt rfl (.tmp 21) (.tmp 24) rfl 0 (.slice (some ⟨w2.heap.size, 0, none⟩) 0 0) 0 [] rfl HO3.out 0 _ 0 0 (ints []) rfl ⟨rfl, Nat.le_refl _, Nat.zero_le _, fun h => absurd h (by omega)⟩ (ints_cell _) (by omega) (by omega) (by omega) ?_; intro v3 w3 hown3 hg3 hat3)
          have S4 := HS3.out.appI (n := 0 + 0) (ys := []) 1 rfl (by simp) hown3 (by simp) hg3 hat3
          rw [List.append_nil, ← HDN.out] at S4
          have HS4 := Lib.hid S4
          clear S4 hown3 hg3 hat3
          go_wp2
          go_meet
          case rel => exact HS4.out
        · have hmc' : m < c := by omega
          have hmi : (m : Int) < (c : Int) := by omega
          clear hmc
          go_wp2_with (at_builtin; refine wp_app elInt rfl (.tmp 21) (.tmp 24) rfl 0 (.slice (some ⟨w2.heap.size, 0, none⟩) 0 0) 0 [] rfl HO3.out _ (some ⟨b, m, none⟩) (k - m) (c - m) (ints (xs.drop m)) rfl HRD.out.row (ints_cell _) (by omega) (by omega) (by omega) ?_; intro v3 w3 hown3 hg3 hat3)
          have S4 := HS3.out.appI (ys := xs.drop m) 1 rfl (by rw [HDX.out]; simp) hown3 HDD.out.wf hg3 hat3
          rw [List.nil_append] at S4
          have HS4 := Lib.hid S4
          clear S4 hown3 hg3 hat3
          go_wp2
          go_meet
          case rel => exact HS4.out
      case rest =>
        have S4 := hcut
        clear hcut HS3 HO3 HRD
        obtain ⟨A4, c4, hv4, -⟩ := S4.rdI 1 rfl
        subst hv4
        rw [HDX.out] at S4 ⊢
        have hmki : (m : Int) ≤ (k : Int) := by omega
        have hmi : (m : Int) ≤ (c : Int) := by omega
        have S5 := S4.call1 (St.lit wc [(k : Int)] 1 rfl (by simp) (fun x hx => wf_i64_mk (by simp at hx; omega)))
        have S6 := S5.cutI 3 (m := m) rfl HXL.out hmk
        have HO6 := Lib.hid (S6.ownI 3 rfl)
        rw [HTX.out] at HO6
        have HR6 := Lib.hid (S6.rdI' 1 rfl).row
        have HS6 := Lib.hid S6
        clear S4 S5 S6
        go_wp2_with (first
          | (at_builtin; refine wp_app elInt rfl (.tmp 28) (.tmp 30) rfl 0 (.slice (some ⟨b, 0, none⟩) m c) m (ints (xs.take m)) rfl HO6.out _ (some ⟨wc.heap.size, 0, none⟩) 1 1 (ints [(k : Int)]) rfl HR6.out (ints_cell _) (by omega) (by omega) (by omega) ?_; intro v5 w5 hown5 hg5 hat5; have S7 := HS6.out.appI (ys := [(k : Int)]) 3 rfl (app_len HTX.out _) hown5 (fun x hx => wf_i64_mk (by simp at hx; omega)) hg5 hat5; have hl7 : (xs.take m ++ [(k : Int)]).length = m + 1 := snoc_len HTX.out _; have HO7 := Lib.hid (S7.ownI 3 rfl); rw [hl7] at HO7; have HR7 := Lib.hid (S7.rdI' 2 rfl).row; have HL7 := Lib.hid hl7; have HS7 := Lib.hid S7; clear S7 hl7 hown5 hg5 hat5 HO6 HR6 HS6)
          | (at_builtin; refine wp_app elInt rfl (.tmp 31) (.tmp 32) rfl 0 v5 (m + 1) (ints (xs.take m ++ [(k : Int)])) rfl HO7.out _ A4 (k - m) c4 (ints (xs.drop m)) rfl HR7.out (ints_cell _) (by omega) (by omega) (by omega) ?_; intro v8 w8 hown8 hg8 hat8))
        have S8 := HS7.out.appI (ys := xs.drop m) 3 rfl (by rw [HL7.out, HDX.out]) hown8 HDD.out.wf hg8 hat8
        have S9 := (S8.rid 2 rfl).rid 1 rfl
        have hl9 : (xs.take m ++ [(k : Int)] ++ xs.drop m).length = k + 1 := by rw [List.length_append, HL7.out, HDX.out]; omega
        obtain ⟨b9, c9, hv9⟩ := S9.formI 1 rfl hl9 (by omega)
        subst hv9
        have HD9 : Hid (Dig (xs.take m ++ [(k : Int)] ++ xs.drop m)) := Lib.hid (((Dig.app (fun x hx => HXD.out x (List.mem_of_mem_take hx)) (Dig.one (by omega) (by omega))).app HDD.out))
        have HL9 := Lib.hid hl9
        have HS9 := Lib.hid S9
        clear S8 S9 hown8 hg8 hat8 HS7 HO7 HR7 HL7 hl9
        go_wp2
        go_roundw
        case rel => exact ⟨k + 1, b9, c9, _, by omega, by go_num, rfl, HL9.out, HD9.out, HS9.out⟩
        case measure => simp [intOf]; omega
    · obtain rfl : k = 5 := by omega
      go_wp2_with fail
      refine (odd_rd HS.out (by omega) n).mono ?_
      rintro e w2 ⟨b2, rfl, s2⟩
      cases b2 with
      | false =>
        have HS2 := Lib.hid (s2.more (hi' := hi + 20) (by omega))
        clear s2 HS
        go_wp2
        go_ret
        exact ⟨_, xs, rfl, by rw [HXL.out]; omega, HXD.out, HS2.out⟩
      | true =>
        have HS2 := Lib.hid s2
        clear s2 HS
        go_wp2_with fail
        refine (pick_rd HS2.out (by omega) 3).mono ?_
        rintro e w3 ⟨x3, rfl, ⟨a1, a2, -⟩, s3⟩
        have a3 := a2 (by omega)
        have HS3 := Lib.hid (s3.more (hi' := hi + 20) (by omega))
        clear s3 a2 HS2
        by_cases h0 : x3 = 0
        · subst h0
          have HS4 := Lib.hid ((HS3.out.call1 (St.lit w3 [] 0 rfl (by simp) (by simp))).rid 2 rfl)
          go_wp2
          go_ret
          exact ⟨_, [], rfl, by simp, fun x hx => by simp at hx, HS4.out⟩
        have h0' : (x3 == 0) = false := by simpa using h0
        by_cases h1 : x3 = 1
        · subst h1
          clear h0 h0'
          have S4 := HS3.out.call1 (St.lit w3 [0] 1 rfl (by simp) (Dig.one (by omega) (by omega)).wf)
          have HO4 := Lib.hid (S4.ownI 2 rfl)
          rw [HXL.out] at HO4
          have HR4 := Lib.hid (S4.rdI' 1 rfl).row
          have HS4 := Lib.hid S4
          clear S4
          go_wp2_with (at_builtin; refine wp_app elInt rfl (.tmp 45) (.tmp 46) rfl 0 (.slice (some ⟨b, 0, none⟩) 5 c) 5 (ints xs) rfl HO4.out _ (some ⟨w3.heap.size, 0, none⟩) 1 1 (ints [0]) rfl HR4.out (ints_cell _) (by omega) (by omega) (by omega) ?_; intro v5 w5 hown5 hg5 hat5)
          have S5 := HS4.out.appI (ys := [0]) 2 rfl (by rw [HXL.out]; simp) hown5 (Dig.one (by omega) (by omega)).wf hg5 hat5
          have HS5 := Lib.hid (S5.rid 1 rfl)
          clear S5 hown5 hg5 hat5
          go_wp2
          go_ret
          exact ⟨_, _, rfl, by rw [List.length_append, HXL.out]; simp, HXD.out.app (Dig.one (by omega) (by omega)), HS5.out⟩
        have h1' : (x3 == 1) = false := by simpa using h1
        have HS4 := Lib.hid ((HS3.out.call1 (St.lit w3 [0, 2] 2 rfl (by simp) (Dig.two (by omega) (by omega) (by omega) (by omega)).wf)).rid 2 rfl)
        clear h0 h1
        go_wp2
        go_ret
        exact ⟨_, [0, 2], rfl, by simp, Dig.two (by omega) (by omega) (by omega) (by omega), HS4.out⟩
end Go.Proofs.Ytdbgoekemffimaa
