/- Plain law of FnLightsTask: the task of the lights is done in as few deeds as the least set of presses has points, if there is one; no program in sight. -/
import Derived.Test.YtfgebdioffeliaaSLightP
import Derived.Test.YtfgebdioffeliaaSFwd
namespace Go.Proofs.Ytfgebdioffeliaa
set_option linter.unusedVariables false
set_option linter.unusedSimpArgs false

/-- of the first k sets the one of as few points as can be that presses v -/
def outB (row : Nat → Nat) (n v : Nat) : Nat → Option Nat
  | 0 => none
  | k + 1 => if press row k n = v then (match outB row n v k with | none => some k | some b => if popc k < popc b then some k else some b) else outB row n v k
section
variable {row : Nat → Nat} {n v : Nat}
theorem outB_no {k : Nat} (h : press row k n ≠ v) : outB row n v (k + 1) = outB row n v k := by simp only [outB]; rw [if_neg h]
theorem outB_first {k : Nat} (h : press row k n = v) (e : outB row n v k = none) : outB row n v (k + 1) = some k := by simp only [outB]; rw [if_pos h, e]
theorem outB_less {k b : Nat} (h : press row k n = v) (e : outB row n v k = some b) (hp : popc k < popc b) : outB row n v (k + 1) = some k := by simp only [outB]; rw [if_pos h, e]; simp only; rw [if_pos hp]
theorem outB_keep {k b : Nat} (h : press row k n = v) (e : outB row n v k = some b) (hp : ¬ popc k < popc b) : outB row n v (k + 1) = some b := by simp only [outB]; rw [if_pos h, e]; simp only; rw [if_neg hp]
theorem outB_none {k : Nat} (h : outB row n v k = none) : ∀ set, set < k → press row set n ≠ v := by
  induction k with
  | zero => intro set hs; omega
  | succ k ih =>
    by_cases hp : press row k n = v
    · cases e : outB row n v k with
      | none => rw [outB_first hp e] at h; cases h
      | some b =>
        by_cases hc : popc k < popc b
        · rw [outB_less hp e hc] at h; cases h
        · rw [outB_keep hp e hc] at h; cases h
    · rw [outB_no hp] at h
      intro set hs
      rcases Nat.lt_or_ge set k with h1 | h1
      · exact ih h set h1
      · have : set = k := by omega
        subst this; exact hp
theorem outB_some {k b : Nat} (h : outB row n v k = some b) : b < k ∧ press row b n = v ∧ ∀ set, set < k → press row set n = v → popc b ≤ popc set := by
  induction k generalizing b with
  | zero => cases h
  | succ k ih =>
    by_cases hp : press row k n = v
    · cases e : outB row n v k with
      | none =>
        rw [outB_first hp e] at h
        cases h
        refine ⟨by omega, hp, fun set hs hset => ?_⟩
        rcases Nat.lt_or_ge set k with h1 | h1
        · exact absurd hset (outB_none e set h1)
        · have : set = k := by omega
          subst this; exact Nat.le_refl _
      | some c =>
        obtain ⟨i1, i2, i3⟩ := ih e
        by_cases hc : popc k < popc c
        · rw [outB_less hp e hc] at h
          cases h
          refine ⟨by omega, hp, fun set hs hset => ?_⟩
          rcases Nat.lt_or_ge set k with h1 | h1
          · have := i3 set h1 hset; omega
          · have : set = k := by omega
            subst this; exact Nat.le_refl _
        · rw [outB_keep hp e hc] at h
          cases h
          refine ⟨by omega, i2, fun set hs hset => ?_⟩
          rcases Nat.lt_or_ge set k with h1 | h1
          · exact i3 set h1 hset
          · have : set = k := by omega
            subst this; omega
    · rw [outB_no hp] at h
      obtain ⟨i1, i2, i3⟩ := ih h
      refine ⟨by omega, i2, fun set hs hset => ?_⟩
      rcases Nat.lt_or_ge set k with h1 | h1
      · exact i3 set h1 hset
      · have : set = k := by omega
        subst this; exact absurd hset hp
/-- how many points press v at least -/
def fewN (row : Nat → Nat) (n v : Nat) : Nat := match outB row n v (2 ^ n) with | some b => popc b | none => 0
def canP (row : Nat → Nat) (n v : Nat) : Prop := ∃ set, set < 2 ^ n ∧ press row set n = v
theorem can_out : canP row n v ↔ ∃ b, outB row n v (2 ^ n) = some b := by
  constructor
  · rintro ⟨set, h1, h2⟩
    cases e : outB row n v (2 ^ n) with
    | none => exact absurd h2 (outB_none e set h1)
    | some b => exact ⟨b, rfl⟩
  · rintro ⟨b, hb⟩
    obtain ⟨h1, h2, -⟩ := outB_some hb
    exact ⟨b, h1, h2⟩
theorem few_le {set : Nat} (h : set < 2 ^ n) (hp : press row set n = v) : fewN row n v ≤ popc set := by
  unfold fewN
  cases e : outB row n v (2 ^ n) with
  | none => exact Nat.zero_le _
  | some b => exact (outB_some e).2.2 set h hp
theorem few_at (h : canP row n v) : ∃ b, b < 2 ^ n ∧ press row b n = v ∧ fewN row n v = popc b := by
  obtain ⟨b, hb⟩ := can_out.1 h
  obtain ⟨h1, h2, -⟩ := outB_some hb
  exact ⟨b, h1, h2, by unfold fewN; rw [hb]⟩
end
/-- the deeds of the lights -/
def deedsL (row : Nat → Nat) (n : Nat) : List DeedD := (List.range n).map fun k => deedL (row k : Nat)
theorem deedsL_mem {row : Nat → Nat} {n : Nat} {d : DeedD} (h : d ∈ deedsL row n) : ∃ k, k < n ∧ d = deedL (row k : Nat) := by
  obtain ⟨k, hk, rfl⟩ := List.mem_map.1 h
  exact ⟨k, List.mem_range.1 hk, rfl⟩
theorem deedL_do (r s : Nat) : deedDo (deedL (r : Nat)) s = some (s ^^^ r) := by
  have h1 : evalCode [5] s = true := rfl
  have h2 : behind (deedL (r : Nat)) s = s ^^^ r := by
    unfold behind deedL
    simp
  unfold deedDo
  rw [show (deedL (r : Nat)).need = [5] from rfl, h1, if_pos rfl, h2]
def goalL (n : Nat) : Nat → Bool := evalCode (noneI n)
theorem goal_all : ∀ n : Fin 6, ∀ s : Fin 32, 0 < n.val → s.val < 2 ^ n.val → goalL n.val s.val = decide (s.val = 0) := by decide +kernel
theorem goal_code : ∀ n : Fin 6, 0 < n.val → codeOk (noneI n.val) = true ∧ noneI n.val ≠ [] := by decide +kernel
theorem deed_okL : ∀ m : Fin 32, deedOk (deedL (m.val : Nat)) = true := by decide +kernel
theorem low_lt {b n j : Nat} (h : b < 2 ^ n) (hb : b.testBit j = true) : j < n := by
  rcases Nat.lt_or_ge j n with h1 | h1
  · exact h1
  · rw [testBit_high h (by omega)] at hb; cases hb
theorem pow5_512 {n x : Nat} (hn : n ≤ 5) (h : x < 2 ^ n) : x < 32 := by
  have := Nat.pow_le_pow_right (show 0 < 2 by omega) hn; omega
section
variable {row : Nat → Nat} {n : Nat}
theorem can_flip {s k : Nat} (hk : k < n) (h : canP row n s) : canP row n (s ^^^ row k) := by
  obtain ⟨set, h1, h2⟩ := h
  refine ⟨set ^^^ 2 ^ k, Nat.xor_lt_two_pow h1 (Nat.pow_lt_pow_right (by omega) hk), ?_⟩
  rw [press_flip, if_pos hk, h2]
theorem can_back {s k : Nat} (hk : k < n) (h : canP row n (s ^^^ row k)) : canP row n s := by
  have := can_flip hk h
  rw [xor_xor] at this; exact this
theorem few_flip {s k : Nat} (h5 : n ≤ 5) (hk : k < n) (h : canP row n (s ^^^ row k)) : fewN row n s ≤ fewN row n (s ^^^ row k) + 1 := by
  obtain ⟨b, b1, b2, b3⟩ := few_at h
  have hlt : b ^^^ 2 ^ k < 2 ^ n := Nat.xor_lt_two_pow b1 (Nat.pow_lt_pow_right (by omega) hk)
  have hp : press row (b ^^^ 2 ^ k) n = s := by rw [press_flip, if_pos hk, b2, xor_xor]
  have := few_le hlt hp
  have hq := popc_flip b (by have := pow5_512 h5 b1; omega) k (by omega)
  rw [b3]
  split at hq <;> omega
theorem light_pot (h1 : 1 ≤ n) (h5 : n ≤ 5) (hr : ∀ k, row k < 2 ^ n) : Pot (deedsL row n) (goalL n) (fun s => s < 2 ^ n ∧ canP row n s) (fewN row n) where
  stay := by
    rintro s ⟨hs, hc⟩ d hd s' e
    obtain ⟨k, hk, rfl⟩ := deedsL_mem hd
    rw [deedL_do] at e; cases e
    exact ⟨Nat.xor_lt_two_pow hs (hr k), can_flip hk hc⟩
  goal := by
    rintro s ⟨hs, hc⟩
    have hg := goal_all ⟨n, by omega⟩ ⟨s, pow5_512 h5 hs⟩ h1 hs
    simp only at hg
    rw [hg, decide_eq_true_eq]
    constructor
    · rintro rfl
      have := few_le (row := row) (v := 0) (set := 0) (Nat.two_pow_pos n) (press_zero n)
      rw [popc_zero] at this; omega
    · intro h0
      obtain ⟨b, b1, b2, b3⟩ := few_at hc
      have hb0 : b = 0 := (popc_pos b (by have := pow5_512 h5 b1; omega)).1 (by omega)
      rw [← b2, hb0, press_zero]
  near := by
    rintro s ⟨hs, hc⟩ d hd s' e
    obtain ⟨k, hk, rfl⟩ := deedsL_mem hd
    rw [deedL_do] at e; cases e
    exact few_flip h5 hk (can_flip hk hc)
  down := by
    rintro s ⟨hs, hc⟩ h0
    obtain ⟨b, b1, b2, b3⟩ := few_at hc
    have h512 : b < 512 := by have := pow5_512 h5 b1; omega
    have hb0 : b ≠ 0 := fun e => h0 (by rw [b3, e, popc_zero])
    obtain ⟨j, hj, hb⟩ := low_bit h512 hb0
    have hjn := low_lt b1 hb
    refine ⟨_, List.mem_map.2 ⟨j, List.mem_range.2 hjn, rfl⟩, s ^^^ row j, deedL_do _ _, ?_⟩
    have hq := popc_flip b h512 j hj
    rw [if_pos hb] at hq
    have hpos : popc b ≠ 0 := fun e => hb0 ((popc_pos b h512).1 e)
    have hle := few_le (row := row) (v := s ^^^ row j) (set := b ^^^ 2 ^ j) (Nat.xor_lt_two_pow b1 (Nat.pow_lt_pow_right (by omega) hjn)) (by rw [press_flip, if_pos hjn, b2])
    have := few_flip h5 hjn (can_flip (row := row) (s := s) hjn hc)
    omega
theorem layer_can (h1 : 1 ≤ n) (h5 : n ≤ 5) (hr : ∀ k, row k < 2 ^ n) (m : Nat) : ∀ s, s < 2 ^ n → layer (deedsL row n) (goalL n) m s = true → canP row n s := by
  induction m with
  | zero =>
    intro s hs h
    have hg := goal_all ⟨n, by omega⟩ ⟨s, pow5_512 h5 hs⟩ h1 hs
    simp only [layer] at h
    simp only at hg
    rw [hg, decide_eq_true_eq] at h
    exact ⟨0, Nat.two_pow_pos n, by rw [press_zero, h]⟩
  | succ m ih =>
    intro s hs h
    simp only [layer, Bool.or_eq_true] at h
    rcases h with h | h
    · exact ih s hs h
    · obtain ⟨d, hd, s', e, h⟩ := backP_iff.1 h
      obtain ⟨k, hk, rfl⟩ := deedsL_mem hd
      rw [deedL_do] at e; cases e
      exact can_back hk (ih _ (Nat.xor_lt_two_pow hs (hr k)) h)
theorem light_stp_no (h1 : 1 ≤ n) (h5 : n ≤ 5) (hr : ∀ k, row k < 2 ^ n) {s : Nat} (hs : s < 2 ^ n) (h : ¬ canP row n s) : stpV (deedsL row n) (goalL n) s < 0 := by
  have : layer (deedsL row n) (goalL n) 32 s = false := by
    cases e : layer (deedsL row n) (goalL n) 32 s with
    | false => rfl
    | true => exact absurd (layer_can h1 h5 hr 32 s hs e) h
  unfold stpV
  rw [stpN_neg this]; omega
theorem popc_le32 : ∀ x, x < 32 → popc x ≤ 5 := by decide +kernel
theorem few_5 (h5 : n ≤ 5) (s : Nat) : fewN row n s ≤ 5 := by
  unfold fewN
  cases e : outB row n s (2 ^ n) with
  | none => simp
  | some b => exact popc_le32 b (pow5_512 h5 (outB_some e).1)
theorem light_stp (h1 : 1 ≤ n) (h5 : n ≤ 5) (hr : ∀ k, row k < 2 ^ n) {s : Nat} (hs : s < 2 ^ n) (h : canP row n s) : stpV (deedsL row n) (goalL n) s = (fewN row n s : Int) :=
  (light_pot h1 h5 hr).stp ⟨hs, h⟩ (by have := few_5 (row := row) h5 s; omega)
def taskL (row : Nat → Nat) (n : Nat) (s : Nat) : TaskD := ⟨s, noneI n, deedsL row n⟩
theorem taskL_ok (h1 : 1 ≤ n) (h5 : n ≤ 5) (hr : ∀ k, row k < 2 ^ n) {s : Nat} (hs : s < 2 ^ n) : taskOk (taskL row n s) = true := by
  have h32 := pow5_512 h5 hs
  have hc := (goal_code ⟨n, by omega⟩ h1).1
  unfold taskOk taskL
  simp only [Bool.and_eq_true, decide_eq_true_eq, List.all_eq_true]
  refine ⟨⟨⟨?_, hc⟩, by simp [deedsL]; omega⟩, fun d hd => ?_⟩
  · unfold stIn; rw [decide_eq_true_eq]; omega
  · obtain ⟨k, hk, rfl⟩ := deedsL_mem hd
    exact deed_okL ⟨row k, pow5_512 h5 (hr k)⟩
def xorP (a : Nat) (x : Int) : Nat := a ^^^ 2 ^ x.toNat
theorem xor4 (a b c : Nat) : (a ^^^ b) ^^^ (c ^^^ b) = a ^^^ c := by
  refine Nat.eq_of_testBit_eq fun i => ?_
  simp only [Nat.testBit_xor]
  cases a.testBit i <;> cases b.testBit i <;> cases c.testBit i <;> rfl
theorem run_press (t : TaskD) (ht : t.deeds = deedsL row n) (p : List Int) : ∀ a s s', runP t s p = some s' → (∀ x ∈ p, 0 ≤ x ∧ x < n) ∧ s' ^^^ press row (p.foldl xorP a) n = s ^^^ press row a n := by
  induction p with
  | nil => intro a s s' h; simp only [runP, Option.some.injEq] at h; subst h; exact ⟨by simp, rfl⟩
  | cons x p ih =>
    intro a s s' h
    simp only [runP] at h
    have hlen : (deedsL row n).length = n := by simp [deedsL]
    cases e : stepP t s x with
    | none => rw [e] at h; cases h
    | some s1 =>
      rw [e] at h
      have h : runP t s1 p = some s' := h
      unfold stepP at e
      rw [ht, hlen] at e
      split at e
      · rename_i hx
        obtain ⟨k, rfl⟩ := Int.eq_ofNat_of_zero_le hx.1
        have hk : k < n := by omega
        rw [Int.toNat_natCast] at e
        have hg : (deedsL row n)[k]? = some (deedL (row k : Nat)) := by simp [deedsL, hk]
        rw [hg] at e
        have e : deedDo (deedL (row k : Nat)) s = some s1 := e
        rw [deedL_do] at e; cases e
        obtain ⟨q1, q2⟩ := ih (xorP a (k : Int)) _ _ h
        refine ⟨fun y hy => ?_, ?_⟩
        · rcases List.mem_cons.1 hy with rfl | hy
          · omega
          · exact q1 y hy
        · rw [List.foldl_cons, q2]
          unfold xorP
          rw [Int.toNat_natCast, press_flip, if_pos hk, xor4]
      · cases e
theorem light_plan (h1 : 1 ≤ n) (h5 : n ≤ 5) (hr : ∀ k, row k < 2 ^ n) {s : Nat} (hs : s < 2 ^ n) {p : List Int} (hp : planFor (taskL row n s) = some p) :
    canP row n s ∧ p.length = fewN row n s ∧ (∀ x ∈ p, 0 ≤ x ∧ x < n) ∧ press row (p.foldl xorP 0) n = s := by
  obtain ⟨a1, a2, a3, s', a4, a5, a6⟩ := planFor_some hp
  have e1 : (taskL row n s).start.toNat = s := Int.toNat_natCast s
  have e2 : (taskL row n s).deeds = deedsL row n := rfl
  have e3 : evalCode (taskL row n s).goal = goalL n := rfl
  rw [e1, e2, e3] at a2
  rw [e1] at a4
  rw [e3] at a6
  have hc : canP row n s := Classical.byContradiction fun hc => by
    have := light_stp_no h1 h5 hr hs hc
    omega
  rw [light_stp h1 h5 hr hs hc] at a2
  obtain ⟨b1, b2⟩ := run_press (n := n) (taskL row n s) e2 p 0 s s' a4
  rw [press_zero, Nat.xor_zero] at b2
  have hpl : ∀ set m, press row set m < 2 ^ n := by
    intro set m
    induction m with
    | zero => simp [press, Nat.two_pow_pos]
    | succ m ih =>
      simp only [press]
      split
      · exact Nat.xor_lt_two_pow ih (hr m)
      · exact ih
  have hs' : s' < 2 ^ n := by
    have : s' = s ^^^ press row (p.foldl xorP 0) n := by rw [← b2, xor_xor]
    rw [this]; exact Nat.xor_lt_two_pow hs (hpl _ _)
  have hg := goal_all ⟨n, by omega⟩ ⟨s', a5⟩ h1 hs'
  simp only at hg
  rw [hg, decide_eq_true_eq] at a6
  subst a6
  rw [Nat.zero_xor] at b2
  exact ⟨hc, by omega, b1, b2⟩
theorem light_none (h1 : 1 ≤ n) (h5 : n ≤ 5) (hr : ∀ k, row k < 2 ^ n) {s : Nat} (hs : s < 2 ^ n) (hp : planFor (taskL row n s) = none) : ¬ canP row n s := fun hc => by
  have e1 : (taskL row n s).start.toNat = s := Int.toNat_natCast s
  unfold planFor at hp
  rw [if_pos (taskL_ok h1 h5 hr hs), e1] at hp
  unfold planOf at hp
  rw [show stpV (taskL row n s).deeds (evalCode (taskL row n s).goal) s = (fewN row n s : Int) from light_stp h1 h5 hr hs hc] at hp
  rw [if_neg (by omega)] at hp
  cases hp
end
/-! ### the graph -/
def rowF (xs : List Int) (k : Nat) : Nat := if k < xs.length then (xs.getD k 0).toNat ^^^ 2 ^ k else 0
theorem rowF_X {xs : List Int} {k : Nat} (h : k < xs.length) : rowX xs k = (rowF xs k : Nat) := by unfold rowX rowF; rw [if_pos h]
theorem rowF_lt {xs : List Int} (h : graphOk xs = true) (k : Nat) : rowF xs k < 2 ^ xs.length := by
  unfold rowF
  split
  · rename_i hk
    obtain ⟨h0, h1, -⟩ := graphOk_at xs h k xs[k] (List.getElem?_eq_getElem hk)
    have e : xs.getD k 0 = xs[k] := by rw [List.getD_eq_getElem?_getD, List.getElem?_eq_getElem hk]; rfl
    rw [e]
    refine Nat.xor_lt_two_pow ?_ (Nat.pow_lt_pow_right (by omega) hk)
    have : ((2 ^ xs.length : Nat) : Int) = (2 : Int) ^ xs.length := by push_cast; rfl
    omega
  · exact Nat.two_pow_pos _
theorem rowF_sym {xs : List Int} (h : graphOk xs = true) (j k : Nat) (hj : j < xs.length) (hk : k < xs.length) : (rowF xs j).testBit k = (rowF xs k).testBit j := by
  unfold rowF
  rw [if_pos hj, if_pos hk, Nat.testBit_xor, Nat.testBit_xor, Nat.testBit_two_pow, Nat.testBit_two_pow, testBit_bit, testBit_bit]
  have hb : bit (xs.getD j 0).toNat k = bit (xs.getD k 0).toNat j := Classical.byContradiction fun hn => by
    rw [graphOk_pair xs j k hj hk hn] at h; cases h
  rw [hb]
  by_cases e : j = k
  · subst e; rfl
  · rw [decide_eq_false e, decide_eq_false (Ne.symm e)]
theorem rowsL_deeds (xs : List Int) : (rowsL xs).map deedL = deedsL (rowF xs) xs.length := by
  unfold rowsL deedsL
  rw [List.map_map]
  refine List.map_congr_left fun k hk => ?_
  simp only [Function.comp]
  rw [rowF_X (List.mem_range.1 hk)]
theorem lights_taskL {xs : List Int} {s : Nat} (h : setOk xs (s : Int) = true) (h5 : xs.length ≤ 5) : lightsTask xs (s : Int) = taskL (rowF xs) xs.length s := by
  unfold lightsTask taskL
  rw [if_pos ⟨h, h5⟩, rowsL_deeds]
/-- a quiet set -/
def quietN (xs : List Int) (q : Nat) : Bool := press (rowF xs) q xs.length == 0
theorem lights_may {xs : List Int} (h : graphOk xs = true) {v : Nat} (hv : v < 2 ^ xs.length) : canP (rowF xs) xs.length v ↔ ∀ q, q < 2 ^ xs.length → quietN xs q = true → popc (q &&& v) % 2 = 0 := by
  have h9 := (graphOk_len xs h).2
  have hp : (2 : Nat) ^ xs.length ≤ 512 := Nat.pow_le_pow_right (n := 2) (by omega) (show xs.length ≤ 9 from h9)
  unfold canP
  rw [out_may h9 (rowF_lt h) (fun j k hj hk => rowF_sym h j k hj hk) hv]
  have key : ∀ q, q < 2 ^ xs.length → (dot q v = false ↔ popc (q &&& v) % 2 = 0) := fun q hq => by
    have hlt : q &&& v < 512 := Nat.lt_of_le_of_lt Nat.and_le_left (by omega)
    rw [popc_par _ hlt]
    unfold dot
    cases par 9 (q &&& v) <;> simp
  constructor
  · intro hh q hq h0
    exact (key q hq).1 (hh q hq (by unfold quietN at h0; simpa using h0))
  · intro hh q hq h0
    exact (key q hq).2 (hh q hq (by unfold quietN; simpa using h0))
/-- what the program asks of a set of facts: each deed turns an even number of them, and the goal another number than the start -/
def sumOk (t : TaskD) (F : Int) : Bool :=
  stIn F && taskOk t && t.deeds.all (fun d => d.on == 0 && d.off == 0 && (List.range 32).all (fun s => evalCode d.need s)) &&
    t.deeds.all (fun d => popc (d.flip.toNat &&& F.toNat) % 2 == 0) && (List.range 32).all fun s => !evalCode t.goal s || !(popc (s &&& F.toNat) % 2 == popc (t.start.toNat &&& F.toNat) % 2)
theorem goal_low : ∀ n : Fin 6, ∀ s : Fin 32, ∀ q : Fin 32, 0 < n.val → q.val < 2 ^ n.val → goalL n.val s.val = true → s.val &&& q.val = 0 := by decide +kernel
theorem need5 : ∀ s, evalCode [5] s = true := fun _ => rfl
/-- a quiet set that meets an odd number of the lights proves that they cannot be put out -/
theorem lights_sum {xs : List Int} (h : graphOk xs = true) (h5 : xs.length ≤ 5) {v q : Nat} (hv : v < 2 ^ xs.length) (hq : q < 2 ^ xs.length) (h0 : quietN xs q = true) (hodd : popc (q &&& v) % 2 = 1) : sumOk (taskL (rowF xs) xs.length v) (q : Int) = true := by
  obtain ⟨h1, h9⟩ := graphOk_len xs h
  have hp : (2 : Nat) ^ xs.length ≤ 512 := Nat.pow_le_pow_right (n := 2) (by omega) (show xs.length ≤ 9 from h9)
  have hr9 : ∀ k, rowF xs k < 512 := fun k => Nat.lt_of_lt_of_le (rowF_lt h k) hp
  have hq32 := pow5_512 h5 hq
  have hz : press (rowF xs) q xs.length = 0 := by unfold quietN at h0; simpa using h0
  unfold sumOk
  simp only [Bool.and_eq_true, List.all_eq_true, List.mem_range, Bool.or_eq_true, Bool.not_eq_true', beq_iff_eq, beq_eq_false_iff_ne, decide_eq_true_eq, Int.toNat_natCast]
  refine ⟨⟨⟨⟨by unfold stIn; rw [decide_eq_true_eq]; omega, taskL_ok h1 h5 (rowF_lt h) hv⟩, fun d hd => ?_⟩, fun d hd => ?_⟩, fun s hs => ?_⟩
  · obtain ⟨k, hk, rfl⟩ := deedsL_mem hd
    exact ⟨⟨rfl, rfl⟩, fun s _ => need5 s⟩
  · obtain ⟨k, hk, rfl⟩ := deedsL_mem hd
    show popc ((rowF xs k : Int).toNat &&& q) % 2 = 0
    rw [Int.toNat_natCast]
    have hlt : rowF xs k &&& q < 512 := Nat.lt_of_le_of_lt Nat.and_le_left (hr9 k)
    have hd := dot_row (row := rowF xs) hr9 h9 (fun j k hj hk => rowF_sym h j k hj hk) hq hk
    rw [hz, Nat.zero_testBit] at hd
    rw [popc_par _ hlt, Nat.and_comm]
    unfold dot at hd
    rw [← hd]; rfl
  · cases hg : evalCode (taskL (rowF xs) xs.length v).goal s with
    | false => exact Or.inl rfl
    | true =>
      right
      have hl := goal_low ⟨xs.length, by omega⟩ ⟨s, hs⟩ ⟨q, hq32⟩ h1 hq hg
      simp only at hl
      rw [hl, popc_zero]
      show ¬ 0 % 2 = popc ((v : Int).toNat &&& q) % 2
      rw [Int.toNat_natCast, Nat.and_comm, hodd]
      omega
end Go.Proofs.Ytfgebdioffeliaa
