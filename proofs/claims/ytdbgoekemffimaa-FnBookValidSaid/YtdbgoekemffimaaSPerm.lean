/- Joined texts: Perm, PermW. -/
import Derived.Test.YtdbgoekemffimaaSPlan
import Derived.Test.YtdbgoekemffimaaSDeed
import Derived.Test.YtdbgoekemffimaaSSz
/- Plain law: permutations of at most five numbers; a set and a code under them; no program in sight. -/
namespace Go.Proofs.Ytdbgoekemffimaa

def permOk (p : List Int) : Bool := decide (1 ≤ p.length ∧ p.length ≤ 5) && (p.all (fun x => decide (0 ≤ x ∧ x < p.length)) && decide p.Nodup)
theorem permOk_iff (p : List Int) : permOk p = true ↔ (1 ≤ p.length ∧ p.length ≤ 5) ∧ (∀ x ∈ p, 0 ≤ x ∧ x < p.length) ∧ p.Nodup := by
  unfold permOk; simp
theorem permOk_len (p : List Int) (h : ¬ (1 ≤ p.length ∧ p.length ≤ 5)) : permOk p = false := by
  unfold permOk; rw [decide_eq_false h]; rfl
theorem nodup_take {α : Type} {p : List α} (h : p.Nodup) {k : Nat} {x : α} (hx : p[k]? = some x) : x ∉ p.take k := by
  intro hm
  obtain ⟨j, hj⟩ := List.mem_iff_getElem?.1 hm
  rw [List.getElem?_take] at hj
  split at hj
  · next hlt =>
    obtain ⟨h1, h2⟩ := List.getElem?_eq_some_iff.1 hx
    obtain ⟨h3, h4⟩ := List.getElem?_eq_some_iff.1 hj
    have := (List.getElem_inj h).1 (h4.trans h2.symm)
    omega
  · cases hj
theorem nodup_of_take {α : Type} {p : List α} (h : ∀ (k : Nat) x, p[k]? = some x → x ∉ p.take k) : p.Nodup := by
  refine List.pairwise_iff_getElem.2 fun i j hi hj hlt e => h j _ (List.getElem?_eq_getElem hj) ?_
  rw [← e]
  refine List.mem_iff_getElem?.2 ⟨i, ?_⟩
  rw [List.getElem?_take, if_pos hlt, List.getElem?_eq_getElem hi]
theorem permOk_out (p : List Int) (k : Nat) (x : Int) (hx : p[k]? = some x) (h : ¬ (0 ≤ x ∧ x < p.length)) : permOk p = false := by
  rw [Bool.eq_false_iff]
  intro e
  exact h (((permOk_iff p).1 e).2.1 x (List.mem_of_getElem? hx))
theorem permOk_twice (p : List Int) (k : Nat) (x : Int) (hx : p[k]? = some x) (h : x ∈ p.take k) : permOk p = false := by
  rw [Bool.eq_false_iff]
  intro e
  exact nodup_take ((permOk_iff p).1 e).2.2 hx h
theorem permOk_good (p : List Int) (hl : 1 ≤ p.length ∧ p.length ≤ 5) (h : ∀ (k : Nat) x, p[k]? = some x → (0 ≤ x ∧ x < p.length) ∧ x ∉ p.take k) : permOk p = true :=
  (permOk_iff p).2 ⟨hl, fun x hx => by obtain ⟨k, hk⟩ := List.mem_iff_getElem?.1 hx; exact (h k x hk).1, nodup_of_take fun k x hx => (h k x hx).2⟩
theorem permOk_any (p : List Int) (h : ∀ (k : Nat) x, p[k]? = some x → (0 ≤ x ∧ x < p.length) ∧ x ∉ p.take k) : permOk p = decide (1 ≤ p.length ∧ p.length ≤ 5) := by
  by_cases hl : 1 ≤ p.length ∧ p.length ≤ 5
  · rw [permOk_good p hl h, decide_eq_true hl]
  · rw [permOk_len p hl, decide_eq_false hl]

/-- the numbers seen so far -/
def seenP (p : List Int) : Nat → Bool := fun j => decide ((j : Int) ∈ p)
theorem seenP_nil (n : Nat) : mset (seenP []) n = 0 := mset_zero.2 fun k _ => by simp [seenP]
theorem seenP_step (p : List Int) (k m : Nat) (hx : p[k]? = some (m : Int)) (n : Nat) (hm : m < n) : mset (seenP (p.take (k + 1))) n = mset (seenP (p.take k)) n ||| 2 ^ m := by
  rw [mset_or_bit _ _ _ hm]
  refine mset_congr fun j hj => ?_
  obtain ⟨h1, h2⟩ := List.getElem?_eq_some_iff.1 hx
  unfold seenP
  rw [List.take_succ_eq_append_getElem h1, h2, Bool.eq_iff_iff]
  simp only [List.mem_append, List.mem_singleton, decide_eq_true_eq, Bool.or_eq_true]
  constructor
  · rintro (h | h)
    · exact .inl h
    · right; omega
  · rintro (h | h)
    · exact .inl h
    · right; omega

/-- the members of a set under the first m names -/
def nameP (s : Nat) (p : List Int) (m : Nat) : Nat → Bool := fun j => (List.range m).any fun k => bit s k == 1 && p[k]? == some (j : Int)
def setN (p : List Int) (s : Nat) : Nat := mset (nameP s p 5) 5
theorem nameP_zero (s : Nat) (p : List Int) : mset (nameP s p 0) 5 = 0 := mset_zero.2 fun _ _ => rfl
theorem nameP_no (s : Nat) (p : List Int) (m : Nat) (h : bit s m = 0) : mset (nameP s p (m + 1)) 5 = mset (nameP s p m) 5 := mset_congr fun j _ => by
  unfold nameP; rw [List.range_succ, List.any_append]; simp [h]
theorem nameP_yes (s : Nat) (p : List Int) (m x : Nat) (h : bit s m = 1) (hx : p[m]? = some (x : Int)) (h5 : x < 5) : mset (nameP s p (m + 1)) 5 = mset (nameP s p m) 5 ||| 2 ^ x := by
  rw [mset_or_bit _ _ _ h5]
  refine mset_congr fun j _ => ?_
  unfold nameP; rw [List.range_succ, List.any_append, Bool.eq_iff_iff]
  simp [h, hx, Int.ofNat_inj]
theorem mset_add_bit (p : Nat → Bool) (n x : Nat) (h : p x = false) : mset p n + 2 ^ x = mset p n ||| 2 ^ x := by
  have e : mset p n &&& 2 ^ x = 0 := by
    refine Nat.eq_of_testBit_eq fun j => ?_
    rw [Nat.testBit_and, testBit_mset, Nat.testBit_two_pow]
    by_cases hj : x = j
    · subst hj; simp [h]
    · simp [hj]
  have := or_two (mset p n) (2 ^ x)
  omega
theorem nameP_apart (s : Nat) (p : List Int) (m x : Nat) (hp : p.Nodup) (hx : p[m]? = some (x : Int)) : nameP s p m x = false := by
  unfold nameP
  rw [List.any_eq_false]
  intro k hk
  have hk := List.mem_range.1 hk
  have := nodup_take hp hx
  intro h
  simp only [Bool.and_eq_true, beq_iff_eq] at h
  exact this (List.mem_iff_getElem?.2 ⟨k, by rw [List.getElem?_take, if_pos hk, h.2]⟩)
theorem nameP_add (s : Nat) (p : List Int) (m x : Nat) (hp : p.Nodup) (hx : p[m]? = some (x : Int)) (h5 : x < 5) : mset (nameP s p (m + 1)) 5 = mset (nameP s p m) 5 + bit s m * 2 ^ x := by
  have := bit_lt s m
  obtain h | h : bit s m = 0 ∨ bit s m = 1 := by omega
  · rw [nameP_no s p m h, h]; simp
  · rw [nameP_yes s p m x h hx h5, h, Nat.one_mul, mset_add_bit _ _ _ (nameP_apart s p m x hp hx)]
theorem setN_lt (p : List Int) (s : Nat) : setN p s < 32 := mset_lt _ 5

def stepN (p : List Int) (x : Int) : Int := if x < 5 then p.getD x.toNat 0 else x
def codeN (p xs : List Int) : List Int := xs.map (stepN p)
/-- the code whose first k steps are named -/
def midN (p xs : List Int) (k : Nat) : List Int := (xs.take k).map (stepN p) ++ xs.drop k
theorem midN_zero (p xs : List Int) : midN p xs 0 = xs := by simp [midN]
theorem midN_all (p xs : List Int) : midN p xs xs.length = codeN p xs := by simp [midN, codeN]
theorem midN_len (p xs : List Int) (k : Nat) : (midN p xs k).length = xs.length := by simp [midN]; omega
theorem midN_at (p xs : List Int) (k : Nat) : (midN p xs k)[k]? = xs[k]? := by
  unfold midN
  by_cases h : k ≤ xs.length
  · rw [List.getElem?_append_right (by simp; omega)]
    simp [Nat.min_eq_left h]
  · rw [List.getElem?_eq_none (by simp; omega), List.getElem?_eq_none (by omega)]
theorem midN_step (p xs : List Int) (k : Nat) (x : Int) (hx : xs[k]? = some x) : midN p xs (k + 1) = (midN p xs k).set k (stepN p x) := by
  obtain ⟨h1, h2⟩ := List.getElem?_eq_some_iff.1 hx
  unfold midN
  have e : (xs.take k).length = k := by simp; omega
  rw [List.set_append_right _ _ (by simp; omega), List.take_succ_eq_append_getElem h1, h2, List.drop_eq_getElem_cons h1, List.length_map, e, Nat.sub_self, List.set_cons_zero]
  simp
theorem midN_same (p xs : List Int) (k : Nat) (x : Int) (hx : xs[k]? = some x) (h : stepN p x = x) : midN p xs (k + 1) = midN p xs k := by
  rw [midN_step p xs k x hx, h]
  have := midN_at p xs k
  rw [hx] at this
  obtain ⟨h1, h2⟩ := List.getElem?_eq_some_iff.1 this
  conv => lhs; rw [← h2]
  exact List.set_getElem_self h1
theorem codeOk_range (xs : List Int) (h : codeOk xs = true) (k : Nat) (x : Int) (hx : xs[k]? = some x) : 0 ≤ x ∧ x ≤ 9 := by
  obtain ⟨h1, -⟩ := List.getElem?_eq_some_iff.1 hx
  obtain ⟨d, -, -, h2⟩ := codeOk_at xs h k (by omega)
  obtain ⟨d', h3⟩ := h2 x hx
  by_cases e : x < 0 ∨ 9 < x
  · unfold dStep at h3; rw [if_pos e] at h3; cases h3
  · omega

def deedN (p : List Int) (d : DeedD) : DeedD := ⟨codeN p d.need, setN p d.on.toNat, setN p d.off.toNat, setN p d.flip.toNat⟩
def taskNamed (t : TaskD) (p : List Int) : TaskD := if taskOk t = true ∧ permOk p = true ∧ p.length = 5 then ⟨setN p t.start.toNat, codeN p t.goal, t.deeds.map (deedN p)⟩ else ⟨0, [], []⟩
end Go.Proofs.Ytdbgoekemffimaa

/- PermValid, the naming of sets and of codes, of the program and of the reference. -/
namespace Go.Proofs.Ytdbgoekemffimaa
set_option linter.unusedVariables false
set_option linter.unusedSimpArgs false
open Go.ChangeShapes Go.WideShapes Go.ChangeAt Go.RowKit
theorem rdI_take {k : IntKind} {w : World} {B : Nat} {A : Option Addr} {n c : Nat} {xs : List Int} (h : RdI k w B A n c xs) (m : Nat) (hm : m ≤ n) : RdI k w B A m c (xs.take m) :=
  ⟨by rw [List.length_take, h.len]; omega, by have := h.cap; omega, h.capMax, fun x hx => h.wf x (List.mem_of_mem_take hx), fun hp => by
    obtain ⟨b, off, e, hb, hc⟩ := h.at_ (by omega)
    refine ⟨b, off, e, hb, fun i x hx => hc i x ?_⟩
    rw [List.getElem?_take] at hx
    split at hx
    · exact hx
    · cases hx⟩

theorem l1Has_any (A : Option Addr) (n c : Nat) (xs : List Int) (x : Int) (w : World) (h : RdI .i64 w w.heap.size A n c xs) :
    Calls Try.prog 125 #[.slice A n c, .int .i64 x] w fun e w' => e = .returned (.bool (decide (x ∈ xs))) ∧ w = w' := by
  have hc := h.cap
  have hm := h.capMax
  unfold maxLen at hm
  have HL := Lib.hid h.len
  go_enter Try.func125, Try.ntmps125
  go_wp2
  go_loop [5] (fun i => ∃ k : Nat, k ≤ n ∧ i = .int .i64 k ∧ Hid (x ∉ xs.take k)) (fun i => n - (intOf i).toNat)
  case atStart => exact ⟨0, by omega, rfl, Lib.hid (by simp)⟩
  case round =>
    obtain ⟨k, hk, rfl, hno⟩ := hrel
    by_cases hlt : k < n
    · obtain ⟨b, off, y, rfl, hb, hx, hw, hc⟩ := h.get hlt
      have HX := Lib.hid hx
      clear hx
      by_cases he : y = x
      · have HM := Lib.hid (List.mem_of_getElem? HX.out)
        subst he
        go_wp2
        go_ret
        exact ⟨ret_bool (decide_eq_true HM.out).symm, rfl⟩
      · have hne : (y == x) = false := by simpa using he
        have HN : Hid (x ∉ xs.take (k + 1)) := Lib.hid (by
          rw [take_succ' HX.out, List.mem_append]
          rintro (h | h)
          · exact hno.out h
          · exact he (List.mem_singleton.1 h).symm)
        clear he
        go_wp2
        go_round
        case rel => exact ⟨k + 1, by omega, by go_num, HN⟩
        case measure => simp [intOf]; omega
    · have hkn : k = n := by omega
      have HF : Hid (x ∉ xs) := Lib.hid (by have := hno.out; rw [hkn, ← HL.out, List.take_length] at this; exact this)
      clear hkn
      go_wp2
      go_ret
      exact ⟨ret_bool (decide_eq_false HF.out).symm, rfl⟩
theorem permValid_impl (A : Option Addr) (n c : Nat) (p : List Int) (w : World) (h : RdI .i64 w w.heap.size A n c p) :
    Calls Try.prog 93 #[.slice A n c] w fun e w' => e = .returned (.bool (permOk p)) ∧ w = w' := by
  have hc := h.cap
  have hm := h.capMax
  unfold maxLen at hm
  have HL := Lib.hid h.len
  by_cases hn : 1 ≤ n ∧ n ≤ 5
  · obtain ⟨hn1, hn2⟩ := hn
    go_enter Try.func93, Try.ntmps93
    go_wp2
    go_loop [16, 3] (fun i sv => ∃ k M : Nat, k ≤ n ∧ i = .int .i64 k ∧ sv = .int .i64 M ∧ M < 32 ∧ Hid (M = mset (seenP (p.take k)) 5) ∧ Hid (∀ (j : Nat) x, j < k → p[j]? = some x → (0 ≤ x ∧ x < p.length) ∧ x ∉ p.take j)) (fun i _ => n - (intOf i).toNat)
    case atStart => exact ⟨0, 0, by omega, rfl, rfl, by omega, Lib.hid (seenP_nil 5).symm, Lib.hid fun j x hj => absurd hj (by omega)⟩
    case round =>
      obtain ⟨k, M, hk, rfl, rfl, hM, HM, HA⟩ := hrel
      by_cases hlt : k < n
      · obtain ⟨b, off, x, rfl, hb, hx, hw, hc⟩ := h.get hlt
        have HX := Lib.hid hx
        clear hx
        by_cases h0 : x < 0
        · have HF := Lib.hid (permOk_out p k x HX.out (by omega))
          go_wp2
          go_ret
          exact ⟨ret_bool HF.out.symm, rfl⟩
        obtain ⟨m, rfl⟩ := Int.eq_ofNat_of_zero_le (show 0 ≤ x by omega)
        by_cases h1 : n ≤ m
        · have HF := Lib.hid (permOk_out p k m HX.out (by rw [HL.out]; omega))
          go_wp2
          go_ret
          exact ⟨ret_bool HF.out.symm, rfl⟩
        have hbit := and_one M m (by omega)
        have HB : Hid ((bit M m == 1) = decide ((m : Int) ∈ p.take k)) := Lib.hid (by rw [HM.out, bit_mset1 _ (by omega)]; rfl)
        by_cases hs : bit M m = 1
        · have HF := Lib.hid (permOk_twice p k m HX.out (by have := HB.out; rw [hs] at this; exact of_decide_eq_true this.symm))
          rw [hs] at hbit
          go_wp2
          go_ret
          exact ⟨ret_bool HF.out.symm, rfl⟩
        · have hs0 : bit M m = 0 := by have := bit_lt M m; omega
          rw [hs0] at hbit
          have HNM : Hid ((m : Int) ∉ p.take k) := Lib.hid (by have := HB.out; rw [hs0] at this; exact of_decide_eq_false this.symm)
          have hpw := wrap_pow m (by omega)
          obtain ⟨M2, hM2⟩ : ∃ M2, M ||| 2 ^ m = M2 := ⟨_, rfl⟩
          have hpm : 2 ^ m < 32 := Nat.pow_lt_pow_right (a := 2) (n := 5) (by omega) (by omega)
          have hor : bits .or .i64 (M : Int) (2 ^ m) = (M2 : Int) := by
            have := i64_or_nat M (2 ^ m) (by omega) (by omega)
            rw [hM2] at this
            simpa using this
          have hM2l : M2 < 32 := by rw [← hM2]; exact Nat.or_lt_two_pow (n := 5) hM hpm
          have HM2 : Hid (M2 = mset (seenP (p.take (k + 1))) 5) := Lib.hid (by rw [← hM2, seenP_step p k m HX.out 5 (by omega), ← HM.out])
          clear hM2 hs hs0
          go_wp2
          go_round
          case rel => exact ⟨k + 1, M2, by omega, by go_num, rfl, hM2l, HM2, Lib.hid fun j x hj hx => by
            rcases Nat.lt_or_ge j k with e | e
            · exact HA.out j x e hx
            · have e' : j = k := by omega
              subst e'
              have := HX.out.symm.trans hx
              injection this with this
              subst this
              exact ⟨⟨by omega, by rw [HL.out]; omega⟩, HNM.out⟩⟩
          case measure => simp [intOf]; omega
      · have hkn : k = n := by omega
        have HF := Lib.hid (permOk_good p (by rw [HL.out]; exact ⟨hn1, hn2⟩) fun j x hx => HA.out j x (by have := (List.getElem?_eq_some_iff.1 hx).1; have := HL.out; omega) hx)
        clear hkn
        go_wp2
        go_ret
        exact ⟨ret_bool HF.out.symm, rfl⟩
  · have HF := Lib.hid (permOk_len p (by rw [HL.out]; exact hn))
    go_enter Try.func93, Try.ntmps93
    go_wp2
    all_goals first | (exfalso; omega) | go_ret
    all_goals exact ⟨ret_bool HF.out.symm, rfl⟩
theorem permValid_spec (A : Option Addr) (n c : Nat) (p : List Int) (w : World) (h : RdI .i64 w w.heap.size A n c p) :
    Calls Try.prog 96 #[.slice A n c] w fun e w' => e = .returned (.bool (permOk p)) ∧ Below w.heap.size w w' := by
  have hc := h.cap
  have hm := h.capMax
  unfold maxLen at hm
  have HL := Lib.hid h.len
  go_enter Try.func96, Try.ntmps96
  go_wp2
  go_loopw [3] (fun i wr => ∃ k : Nat, k ≤ n ∧ i = .int .i64 k ∧ RdI .i64 wr w.heap.size A n c p ∧ Below w.heap.size w wr ∧ Hid (∀ (j : Nat) x, j < k → p[j]? = some x → (0 ≤ x ∧ x < p.length) ∧ x ∉ p.take j)) (fun i _ => n - (intOf i).toNat)
  case atStart => exact ⟨0, by omega, rfl, h, Below.refl _ _, Lib.hid fun j x hj => absurd hj (by omega)⟩
  case round =>
    obtain ⟨k, hk, rfl, hr, hbel, HA⟩ := hrel
    have HBE := Lib.hid hbel
    clear hbel
    by_cases hlt : k < n
    · have HR := Lib.hid hr
      obtain ⟨b, off, x, rfl, hb, hx, hw, hc⟩ := hr.get hlt
      clear hr
      have HX := Lib.hid hx
      clear hx
      by_cases hin : 0 ≤ x ∧ x < n
      case neg =>
        have HF := Lib.hid (permOk_out p k x HX.out (by rw [HL.out]; exact hin))
        have HC := Lib.hid (fun w => l1In_no x 0 ((n : Int) - 1) w (by omega))
        clear hin
        go_upto_region 4 with (fail)
        go_quiet ((go_at_call 107; with_reducible exact quiet_left (HC.out _)))
        go_wp2
        go_ret
        exact ⟨ret_bool HF.out.symm, HBE.out.trans (below_drewN (Below.refl _ _) _)⟩
      obtain ⟨h0, h1⟩ := hin
      have HC := Lib.hid (fun w => l1In_yes x 0 ((n : Int) - 1) w (by omega) (by omega))
      have HD := Lib.hid (fun q => l1Has_any (some ⟨b, off, none⟩) k c (p.take k) x (wr.drewN q) (((rdI_take (HR.out.more HBE.out.size) k (by omega)).up (below_drewN (Below.refl _ _) q))))
      obtain ⟨bh, hbh⟩ : ∃ b, decide (x ∈ p.take k) = b := ⟨_, rfl⟩
      have HBH := Lib.hid hbh
      rw [hbh] at HD
      clear hbh
      cases bh with
      | true =>
        have HF := Lib.hid (permOk_twice p k x HX.out (of_decide_eq_true HBH.out))
        go_upto_region 4 with (fail)
        go_quiet (first | (go_at_call 107; with_reducible exact quiet_left (HC.out _)) | (go_at_call 125; with_reducible exact quiet_left (HD.out _)))
        go_wp2
        go_ret
        exact ⟨ret_bool HF.out.symm, HBE.out.trans (below_drewN (Below.refl _ _) _)⟩
      | false =>
        go_upto_region 4 with (fail)
        go_quiet (first | (go_at_call 107; with_reducible exact quiet_left (HC.out _)) | (go_at_call 125; with_reducible exact quiet_left (HD.out _)))
        go_wp2
        go_roundw
        case rel => exact ⟨k + 1, by omega, by go_num, HR.out.below (below_drewN (Below.refl _ _) _), HBE.out.trans (below_drewN (Below.refl _ _) _), Lib.hid fun j x' hj hx => by
            rcases Nat.lt_or_ge j k with e | e
            · exact HA.out j x' e hx
            · have e' : j = k := by omega
              subst e'
              have := HX.out.symm.trans hx
              injection this with this
              subst this
              exact ⟨⟨by omega, by rw [HL.out]; omega⟩, of_decide_eq_false HBH.out⟩⟩
        case measure => simp [intOf]; omega
    · have hkn : k = n := by omega
      have HF := Lib.hid (permOk_any p fun j x hx => HA.out j x (by have := (List.getElem?_eq_some_iff.1 hx).1; have := HL.out; omega) hx)
      clear hkn
      go_wp2_with fail
      refine (l1In_any (n : Int) 1 5 _).mono ?_
      rintro e w' ⟨rfl, rfl⟩
      go_wp2
      go_ret
      exact ⟨ret_bool (by rw [HF.out, HL.out, Bool.eq_iff_iff]; simp; omega), HBE.out⟩
end Go.Proofs.Ytdbgoekemffimaa
