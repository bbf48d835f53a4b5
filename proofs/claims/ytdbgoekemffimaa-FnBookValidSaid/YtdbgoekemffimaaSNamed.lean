/- Sets and codes under names, of the program and of the reference. -/
import Derived.Test.YtdbgoekemffimaaSPerm
namespace Go.Proofs.Ytdbgoekemffimaa
set_option linter.unusedVariables false
set_option linter.unusedSimpArgs false
open Go.ChangeShapes Go.WideShapes Go.ChangeAt Go.RowKit
section
variable {w W W' : World} {L : List HRes}
theorem ints_set (xs : List Int) (k : Nat) (x : Int) : (ints xs).set k (.int .i64 x) = ints (xs.set k x) := by simp [ints, List.map_set]
/-- a store in a row of numbers -/
theorem St.storeI (h : St w W L) (i : Nat) {g n c : Nat} {xs : List Int} (hi : L[i]? = some (rInts (.slice (some ⟨g, 0, none⟩) n c) xs)) (hn : xs.length = n) (k : Nat) (x : Int) (hw : (Lit.int .i64 x).wf = true) :
    St w (W.setCell ⟨g, k, none⟩ (.int .i64 x)) (L.set i (rInts (.slice (some ⟨g, 0, none⟩) n c) (xs.set k x))) :=
  h.mod i hi fun F h1 _ => ⟨F, ⟨by
    have := (World.ownsRow.stored (hn ▸ h1.row : W.ownsRow 0 3 1 (.slice (some ⟨g, 0, none⟩) n c) n (Go.Proofs.Ytdbgoekemffimaa.ints xs)) k (.int .i64 x)).1
    rw [ints_set] at this
    rw [List.length_set, hn]; exact this, fun y hy => by
      rcases List.mem_or_eq_of_mem_set hy with e | e
      · exact h1.wf y e
      · subst e; exact hw, h1.foot⟩, fun b hb => .inl hb, (Only.refl F W).set (by rw [h1.foot]; simp [Value.ownBlock]) _⟩
theorem St.formI (h : St w W L) (i : Nat) {v : Value} {xs : List Int} (hi : L[i]? = some (rInts v xs)) {n : Nat} (hn : xs.length = n) (h0 : 0 < n) : ∃ g c, v = .slice (some ⟨g, 0, none⟩) n c := by
  obtain ⟨F, h1, -⟩ := h.get i hi
  subst hn
  rcases h1.row.2 with ⟨_, h2⟩ | ⟨g, cap, cur, hv, _⟩
  · omega
  · exact ⟨g, cap, hv⟩
theorem St.cellI (h : St w W L) (i : Nat) {g n c : Nat} {xs : List Int} (hi : L[i]? = some (rInts (.slice (some ⟨g, 0, none⟩) n c) xs)) (hn : xs.length = n) (k : Nat) (x : Int) (hx : xs[k]? = some x) : W.cell? ⟨g, k, none⟩ = some (.int .i64 x) ∧ W.frozen? ⟨g, k, none⟩ = false := by
  obtain ⟨F, h1, -⟩ := h.get i hi
  have hr : W.ownsRow 0 3 1 (.slice (some ⟨g, 0, none⟩) n c) n (Go.Proofs.Ytdbgoekemffimaa.ints xs) := hn ▸ h1.row
  refine ⟨?_, hr.frozenAt k⟩
  have hk := (List.getElem?_eq_some_iff.1 hx).1
  rw [hr.cellAt k (by omega)]
  simp [Go.Proofs.Ytdbgoekemffimaa.ints, hx]
end
theorem stepN_lo (p : List Int) (x : Nat) (y : Int) (h : x < 5) (hy : p[x]? = some y) : stepN p (x : Int) = y := by
  unfold stepN; rw [if_pos (by omega), Int.toNat_natCast, List.getD_eq_getElem?_getD, hy]; rfl
theorem stepN_hi (p : List Int) (x : Int) (h : ¬ x < 5) : stepN p x = x := if_neg h
theorem codeNamed_any (A : Option Addr) (n c : Nat) (xs : List Int) (A' : Option Addr) (n' c' : Nat) (p : List Int) (w : World) (h : RdI .i64 w w.heap.size A n c xs) (hp : RdI .i64 w w.heap.size A' n' c' p) (hok : codeOk xs = true) (h5 : n' = 5) :
    Calls Try.prog 95 #[.slice A n c, .slice A' n' c'] w (Gives w id fun v => [rInts v (codeN p xs)]) := by
  subst h5
  have HL := Lib.hid h.len
  have HP := Lib.hid hp
  have hlen := (codeOk_iff xs).1 hok
  rw [h.len] at hlen
  obtain ⟨hn1, hn2, -⟩ := hlen
  have HX := Lib.hid (codeOk_range xs hok)
  have H := Lib.hid h
  clear h hp hok
  go_enter Try.func95, Try.ntmps95
  go_wp2_with fail
  refine (clone_any A n c xs _ H.out (by omega)).mono ?_
  rintro e w1 ⟨v, rfl, S1⟩
  obtain ⟨g, cc, rfl⟩ := S1.formI 0 rfl HL.out (by omega)
  have HS1 := Lib.hid S1
  clear S1
  simp only [id]
  go_wp2
  go_loopw [12] (fun i wr => ∃ k : Nat, k ≤ n ∧ i = .int .i64 k ∧ St w wr [rInts (.slice (some ⟨g, 0, none⟩) n cc) (midN p xs k)]) (fun i _ => n - (intOf i).toNat)
  case atStart => exact ⟨0, by omega, rfl, by rw [midN_zero]; exact HS1.out⟩
  case round =>
    obtain ⟨k, hk, rfl, M⟩ := hrel
    have hml : (midN p xs k).length = n := (midN_len p xs k).trans HL.out
    have HML := Lib.hid hml
    by_cases hlt : k < n
    · obtain ⟨x, hx⟩ : ∃ x, xs[k]? = some x := ⟨_, List.getElem?_eq_getElem (by rw [HL.out]; exact hlt)⟩
      obtain ⟨q0, f0⟩ := M.cellI 0 rfl hml k x ((midN_at p xs k).trans hx)
      obtain ⟨x0, x9⟩ := HX.out k x hx
      obtain ⟨m, rfl⟩ := Int.eq_ofNat_of_zero_le x0
      have HXK := Lib.hid hx
      have HM := Lib.hid M
      clear hx M hml
      by_cases hm : m < 5
      · obtain ⟨b, off, y, rfl, hb, hy, hwy, hcy⟩ := HP.out.get (i := m) (by omega)
        have hcr : wr.cell? ⟨b, off + m, none⟩ = some (.int .i64 y) := (bcells HM.out.below b _ hb).trans hcy
        have HY := Lib.hid (stepN_lo p m y hm hy)
        have HW := Lib.hid hwy
        clear hy hwy hcy
        go_wp2
        go_roundw
        case rel => exact ⟨k + 1, by omega, by go_num, by rw [midN_step p xs k _ HXK.out, HY.out]; exact HM.out.storeI 0 rfl HML.out k y HW.out⟩
        case measure => simp [intOf]; omega
      · have HY := Lib.hid (stepN_hi p m (by omega))
        go_wp2
        go_roundw
        case rel => exact ⟨k + 1, by omega, by go_num, by rw [midN_same p xs k _ HXK.out HY.out]; exact HM.out⟩
        case measure => simp [intOf]; omega
    · have hkn : k = n := by omega
      have HM : Hid (St w wr [rInts (.slice (some ⟨g, 0, none⟩) n cc) (codeN p xs)]) := Lib.hid (by rw [hkn, ← HL.out, midN_all, HL.out] at M; exact M)
      clear hkn M hml
      go_wp2
      go_ret
      exact ⟨_, rfl, HM.out⟩
theorem setNamed_any (s : Nat) (A' : Option Addr) (n' c' : Nat) (p : List Int) (w : World) (hp : RdI .i64 w w.heap.size A' n' c' p) (hs : s < 32) (hok : permOk p = true) (h5 : n' = 5) :
    Calls Try.prog 94 #[.int .i64 s, .slice A' n' c'] w fun e w' => e = .returned (.int .i64 (setN p s)) ∧ w = w' := by
  subst h5
  have HL := Lib.hid hp.len
  have HR : Hid (∀ x ∈ p, 0 ≤ x ∧ x < 5) := Lib.hid (by have := ((permOk_iff p).1 hok).2.1; rw [HL.out] at this; exact this)
  go_enter Try.func94, Try.ntmps94
  go_wp2
  go_loop [10, 5] (fun i sv => ∃ k M : Nat, k ≤ 5 ∧ i = .int .i64 k ∧ sv = .int .i64 M ∧ M < 32 ∧ Hid (M = mset (nameP s p k) 5)) (fun i _ => 5 - (intOf i).toNat)
  case atStart => exact ⟨0, 0, by omega, rfl, rfl, by omega, Lib.hid (nameP_zero s p).symm⟩
  case round =>
    obtain ⟨k, M, hk, rfl, rfl, hM, HM⟩ := hrel
    by_cases hlt : k < 5
    · obtain ⟨b, off, x, rfl, hb, hx, hw, hc⟩ := hp.get hlt
      obtain ⟨x0, x5⟩ := HR.out x (List.mem_of_getElem? hx)
      obtain ⟨m, rfl⟩ := Int.eq_ofNat_of_zero_le x0
      have HX := Lib.hid hx
      clear hx
      have hbit := and_one s k (by omega)
      by_cases hs1 : bit s k = 1
      · rw [hs1] at hbit
        have hpw := wrap_pow m (by omega)
        obtain ⟨M2, hM2⟩ : ∃ M2, M ||| 2 ^ m = M2 := ⟨_, rfl⟩
        have hpm : 2 ^ m < 32 := Nat.pow_lt_pow_right (a := 2) (n := 5) (by omega) (by omega)
        have hor : bits .or .i64 (M : Int) (2 ^ m) = (M2 : Int) := by
          have := i64_or_nat M (2 ^ m) (by omega) (by omega)
          rw [hM2] at this
          simpa using this
        have hM2l : M2 < 32 := by rw [← hM2]; exact Nat.or_lt_two_pow (n := 5) hM hpm
        have HM2 : Hid (M2 = mset (nameP s p (k + 1)) 5) := Lib.hid (by rw [← hM2, nameP_yes s p k m hs1 HX.out (by omega), ← HM.out])
        clear hM2 hs1
        go_wp2
        go_round
        case rel => exact ⟨k + 1, M2, by omega, by go_num, rfl, hM2l, HM2⟩
        case measure => simp [intOf]; omega
      · have hs0 : bit s k = 0 := by have := bit_lt s k; omega
        rw [hs0] at hbit
        have HM2 : Hid (M = mset (nameP s p (k + 1)) 5) := Lib.hid (by rw [nameP_no s p k hs0, ← HM.out])
        clear hs1 hs0
        go_wp2
        go_round
        case rel => exact ⟨k + 1, M, by omega, by go_num, rfl, hM, HM2⟩
        case measure => simp [intOf]; omega
    · have hkn : k = 5 := by omega
      have HF : Hid (M = setN p s) := Lib.hid (by rw [HM.out, hkn]; rfl)
      clear hkn
      go_wp2
      go_ret
      exact ⟨ret_int (by rw [HF.out]), rfl⟩
theorem l9Moved_any (s : Nat) (A' : Option Addr) (n' c' : Nat) (p : List Int) (w : World) (hp : RdI .i64 w w.heap.size A' n' c' p) (hs : s < 32) (hok : permOk p = true) (h5 : n' = 5) :
    Calls Try.prog 97 #[.int .i64 s, .slice A' n' c'] w fun e w' => e = .returned (.int .i64 (setN p s)) ∧ Below w.heap.size w w' := by
  subst h5
  have HL := Lib.hid hp.len
  have HR : Hid (∀ x ∈ p, 0 ≤ x ∧ x < 5) := Lib.hid (by have := ((permOk_iff p).1 hok).2.1; rw [HL.out] at this; exact this)
  have HN := Lib.hid ((permOk_iff p).1 hok).2.2
  go_enter Try.func97, Try.ntmps97
  go_wp2
  go_loopw [6, 5] (fun i sv wr => ∃ k M : Nat, k ≤ 5 ∧ i = .int .i64 k ∧ sv = .int .i64 M ∧ M < 32 ∧ Hid (M = mset (nameP s p k) 5) ∧ RdI .i64 wr w.heap.size A' 5 c' p ∧ Below w.heap.size w wr) (fun i _ _ => 5 - (intOf i).toNat)
  case atStart => exact ⟨0, 0, by omega, rfl, rfl, by omega, Lib.hid (nameP_zero s p).symm, hp, Below.refl _ _⟩
  case round =>
    obtain ⟨k, M, hk, rfl, rfl, hM, HM, hr, hbel⟩ := hrel
    have HBE := Lib.hid hbel
    have HRR := Lib.hid hr
    clear hbel
    by_cases hlt : k < 5
    · obtain ⟨b, off, x, rfl, hb, hx, hw, hc⟩ := hr.get hlt
      obtain ⟨x0, x5⟩ := HR.out x (List.mem_of_getElem? hx)
      obtain ⟨m, rfl⟩ := Int.eq_ofNat_of_zero_le x0
      obtain ⟨M2, hM2⟩ : ∃ M2, M + bit s k * 2 ^ m = M2 := ⟨_, rfl⟩
      have HM2 : Hid (M2 = mset (nameP s p (k + 1)) 5) := Lib.hid (by rw [← hM2, nameP_add s p k m HN.out hx (by omega), ← HM.out])
      have hM2l : M2 < 32 := by rw [HM2.out]; exact mset_lt _ 5
      have HC := Lib.hid (fun w => l1Bit_nat s k (by omega) w)
      have hpm : 2 ^ m < 32 := Nat.pow_lt_pow_right (a := 2) (n := 5) (by omega) (by omega)
      have hbl := bit_lt s k
      have hsh : ((bit s k : Nat) : Int) * 2 ^ m = ((M2 - M : Nat) : Int) := by
        rw [show M2 - M = bit s k * 2 ^ m by omega]; push_cast; rfl
      have hle : M ≤ M2 := by omega
      clear hx hr hM2
      go_upto_region 5 with (fail)
      go_quiet ((go_at_call 89; with_reducible exact quiet_left (HC.out _)))
      go_wp2
      go_roundw
      case rel => exact ⟨k + 1, M2, by omega, by go_num, by first | (congr 1; omega) | go_num, hM2l, HM2, HRR.out.below (below_drewN (Below.refl _ _) _), HBE.out.trans (below_drewN (Below.refl _ _) _)⟩
      case measure => simp [intOf]; omega
    · have hkn : k = 5 := by omega
      have HF : Hid (M = setN p s) := Lib.hid (by rw [HM.out, hkn]; rfl)
      clear hkn hr
      go_wp2
      go_ret
      exact ⟨ret_int (by rw [HF.out]), HBE.out⟩
theorem l9Code_any (A : Option Addr) (n c : Nat) (xs : List Int) (A' : Option Addr) (n' c' : Nat) (p : List Int) (w : World) (h : RdI .i64 w w.heap.size A n c xs) (hp : RdI .i64 w w.heap.size A' n' c' p) (hok : codeOk xs = true) (h5 : n' = 5) :
    Calls Try.prog 98 #[.slice A n c, .slice A' n' c'] w (Gives w id fun v => [rInts v (codeN p xs)]) := by
  subst h5
  have HL := Lib.hid h.len
  have HP := Lib.hid hp
  have hlen := (codeOk_iff xs).1 hok
  rw [h.len] at hlen
  obtain ⟨hn1, hn2, -⟩ := hlen
  have HX := Lib.hid (codeOk_range xs hok)
  have H := Lib.hid h
  have HOL : Hid ((w.alloc (.cells #[] 3)).ownsRow w.heap.size 3 1 (.slice (some ⟨w.heap.size, 0, none⟩) 0 0) 0 []) := Lib.hid (World.ownsRow_lit w #[] 0 (Nat.le_refl _) (by unfold maxLen; omega) rfl)
  have HRW := Lib.hid (h.below ((Below.refl _ _).alloc (Nat.le_refl _) (.cells #[] 3))).row
  have HW := Lib.hid h.wf
  have HMK : Hid (∀ (v2 : Value) (w2 : World), w2.ownsRow w.heap.size 3 1 v2 (0 + n) ([] ++ ints xs) → (w.alloc (.cells #[] 3)).grownBy w2 (some w.heap.size) → St w w2 [rInts v2 xs]) := Lib.hid (fun v2 w2 hown2 hg2 => St.of_ints (F := v2.ownBlock.toList) ⟨by rw [HL.out]; simpa using hown2, HW.out, rfl⟩ (((Below.refl _ _).alloc (Nat.le_refl _) (.cells #[] 3)).grown hg2 (by simp) (fun k hk => by injection hk with hk; omega)))
  clear h hp hok
  go_enter Try.func98, Try.ntmps98
  go_wp2_with (at_builtin; refine wp_app elInt rfl _ _ rfl w.heap.size _ 0 [] rfl HOL.out w.heap.size A n c (ints xs) rfl (HRW.out) (ints_cell _) (by omega) (by omega) (by simp) ?_; intro v2 w2 hown2 hg2 hat2; have S1 : St w w2 [rInts v2 xs] := HMK.out v2 w2 hown2 hg2; obtain ⟨g, cc, rfl⟩ := S1.formI 0 rfl HL.out (by omega); have HS1 := Lib.hid S1; clear S1 hown2 hg2 hat2)
  go_loopw [6] (fun i wr => ∃ k : Nat, k ≤ n ∧ i = .int .i64 k ∧ St w wr [rInts (.slice (some ⟨g, 0, none⟩) n cc) (midN p xs k)]) (fun i _ => n - (intOf i).toNat)
  case atStart => exact ⟨0, by omega, rfl, by rw [midN_zero]; exact HS1.out⟩
  case round =>
    obtain ⟨k, hk, rfl, M⟩ := hrel
    have hml : (midN p xs k).length = n := (midN_len p xs k).trans HL.out
    have HML := Lib.hid hml
    by_cases hlt : k < n
    · obtain ⟨x, hx⟩ : ∃ x, xs[k]? = some x := ⟨_, List.getElem?_eq_getElem (by rw [HL.out]; exact hlt)⟩
      obtain ⟨q0, f0⟩ := M.cellI 0 rfl hml k x ((midN_at p xs k).trans hx)
      obtain ⟨x0, x9⟩ := HX.out k x hx
      obtain ⟨m, rfl⟩ := Int.eq_ofNat_of_zero_le x0
      have HXK := Lib.hid hx
      have HM := Lib.hid M
      clear hx M hml
      by_cases hm : m < 5
      · obtain ⟨b, off, y, rfl, hb, hy, hwy, hcy⟩ := HP.out.get (i := m) (by omega)
        have hcr : wr.cell? ⟨b, off + m, none⟩ = some (.int .i64 y) := (bcells HM.out.below b _ hb).trans hcy
        have HY := Lib.hid (stepN_lo p m y hm hy)
        have HW := Lib.hid hwy
        clear hy hwy hcy
        go_wp2
        go_roundw
        case rel => exact ⟨k + 1, by omega, by go_num, by rw [midN_step p xs k _ HXK.out, HY.out]; exact HM.out.storeI 0 rfl HML.out k y HW.out⟩
        case measure => simp [intOf]; omega
      · have HY := Lib.hid (stepN_hi p m (by omega))
        go_wp2
        go_roundw
        case rel => exact ⟨k + 1, by omega, by go_num, by rw [midN_same p xs k _ HXK.out HY.out]; exact HM.out⟩
        case measure => simp [intOf]; omega
    · have hkn : k = n := by omega
      have HM : Hid (St w wr [rInts (.slice (some ⟨g, 0, none⟩) n cc) (codeN p xs)]) := Lib.hid (by rw [hkn, ← HL.out, midN_all, HL.out] at M; exact M)
      clear hkn M hml
      go_wp2
      go_ret
      exact ⟨_, rfl, HM.out⟩
end Go.Proofs.Ytdbgoekemffimaa
