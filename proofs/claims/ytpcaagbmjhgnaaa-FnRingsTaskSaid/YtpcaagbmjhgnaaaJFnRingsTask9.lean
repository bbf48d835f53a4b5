/- Joined texts: Perm, Sz. -/
import Derived.Test.YtpcaagbmjhgnaaaJFnRingsTask5
import Derived.Test.YtpcaagbmjhgnaaaJFnRingsTaskDeed
import Derived.Test.YtpcaagbmjhgnaaaJFnRingsTask3

/- Plain law: permutations of at most five numbers; a set and a code under them; no program in sight. -/
namespace Go.Proofs.Ytpcaagbmjhgnaaa

def permOk (p : List Int) : Bool := decide (1 ≤ p.length ∧ p.length ≤ 5) && (p.all (fun x => decide (0 ≤ x ∧ x < p.length)) && decide p.Nodup)
theorem permOk_iff (p : List Int) : permOk p = true ↔ (1 ≤ p.length ∧ p.length ≤ 5) ∧ (∀ x ∈ p, 0 ≤ x ∧ x < p.length) ∧ p.Nodup := by
  unfold permOk; simp
theorem permOk_len (p : List Int) (h : ¬ (1 ≤ p.length ∧ p.length ≤ 5)) : permOk p = false := by
  unfold permOk; rw [decide_eq_false h]; rfl
theorem nodup_take {α : Type} {p : List α} (h : p.Nodup) {k : Nat} {x : α} (hx : p[k]? = some x) : x ∉ p.take k := by
  intro hm
  obtain ⟨j, hj⟩ := List.mem_iff_getElem?.1 hm
  rw [List.getElem?_take] at hj
  split at hj
  · next hlt =>
    obtain ⟨h1, h2⟩ := List.getElem?_eq_some_iff.1 hx
    obtain ⟨h3, h4⟩ := List.getElem?_eq_some_iff.1 hj
    have := (List.getElem_inj h).1 (h4.trans h2.symm)
    omega
  · cases hj
theorem nodup_of_take {α : Type} {p : List α} (h : ∀ (k : Nat) x, p[k]? = some x → x ∉ p.take k) : p.Nodup := by
  refine List.pairwise_iff_getElem.2 fun i j hi hj hlt e => h j _ (List.getElem?_eq_getElem hj) ?_
  rw [← e]
  refine List.mem_iff_getElem?.2 ⟨i, ?_⟩
  rw [List.getElem?_take, if_pos hlt, List.getElem?_eq_getElem hi]
theorem permOk_out (p : List Int) (k : Nat) (x : Int) (hx : p[k]? = some x) (h : ¬ (0 ≤ x ∧ x < p.length)) : permOk p = false := by
  rw [Bool.eq_false_iff]
  intro e
  exact h (((permOk_iff p).1 e).2.1 x (List.mem_of_getElem? hx))
theorem permOk_twice (p : List Int) (k : Nat) (x : Int) (hx : p[k]? = some x) (h : x ∈ p.take k) : permOk p = false := by
  rw [Bool.eq_false_iff]
  intro e
  exact nodup_take ((permOk_iff p).1 e).2.2 hx h
theorem permOk_good (p : List Int) (hl : 1 ≤ p.length ∧ p.length ≤ 5) (h : ∀ (k : Nat) x, p[k]? = some x → (0 ≤ x ∧ x < p.length) ∧ x ∉ p.take k) : permOk p = true :=
  (permOk_iff p).2 ⟨hl, fun x hx => by obtain ⟨k, hk⟩ := List.mem_iff_getElem?.1 hx; exact (h k x hk).1, nodup_of_take fun k x hx => (h k x hx).2⟩
theorem permOk_any (p : List Int) (h : ∀ (k : Nat) x, p[k]? = some x → (0 ≤ x ∧ x < p.length) ∧ x ∉ p.take k) : permOk p = decide (1 ≤ p.length ∧ p.length ≤ 5) := by
  by_cases hl : 1 ≤ p.length ∧ p.length ≤ 5
  · rw [permOk_good p hl h, decide_eq_true hl]
  · rw [permOk_len p hl, decide_eq_false hl]

/-- the numbers seen so far -/
def seenP (p : List Int) : Nat → Bool := fun j => decide ((j : Int) ∈ p)
theorem seenP_nil (n : Nat) : mset (seenP []) n = 0 := mset_zero.2 fun k _ => by simp [seenP]
theorem seenP_step (p : List Int) (k m : Nat) (hx : p[k]? = some (m : Int)) (n : Nat) (hm : m < n) : mset (seenP (p.take (k + 1))) n = mset (seenP (p.take k)) n ||| 2 ^ m := by
  rw [mset_or_bit _ _ _ hm]
  refine mset_congr fun j hj => ?_
  obtain ⟨h1, h2⟩ := List.getElem?_eq_some_iff.1 hx
  unfold seenP
  rw [List.take_succ_eq_append_getElem h1, h2, Bool.eq_iff_iff]
  simp only [List.mem_append, List.mem_singleton, decide_eq_true_eq, Bool.or_eq_true]
  constructor
  · rintro (h | h)
    · exact .inl h
    · right; omega
  · rintro (h | h)
    · exact .inl h
    · right; omega

/-- the members of a set under the first m names -/
def nameP (s : Nat) (p : List Int) (m : Nat) : Nat → Bool := fun j => (List.range m).any fun k => bit s k == 1 && p[k]? == some (j : Int)
def setN (p : List Int) (s : Nat) : Nat := mset (nameP s p 5) 5
theorem nameP_zero (s : Nat) (p : List Int) : mset (nameP s p 0) 5 = 0 := mset_zero.2 fun _ _ => rfl
theorem nameP_no (s : Nat) (p : List Int) (m : Nat) (h : bit s m = 0) : mset (nameP s p (m + 1)) 5 = mset (nameP s p m) 5 := mset_congr fun j _ => by
  unfold nameP; rw [List.range_succ, List.any_append]; simp [h]
theorem nameP_yes (s : Nat) (p : List Int) (m x : Nat) (h : bit s m = 1) (hx : p[m]? = some (x : Int)) (h5 : x < 5) : mset (nameP s p (m + 1)) 5 = mset (nameP s p m) 5 ||| 2 ^ x := by
  rw [mset_or_bit _ _ _ h5]
  refine mset_congr fun j _ => ?_
  unfold nameP; rw [List.range_succ, List.any_append, Bool.eq_iff_iff]
  simp [h, hx, Int.ofNat_inj]
theorem mset_add_bit (p : Nat → Bool) (n x : Nat) (h : p x = false) : mset p n + 2 ^ x = mset p n ||| 2 ^ x := by
  have e : mset p n &&& 2 ^ x = 0 := by
    refine Nat.eq_of_testBit_eq fun j => ?_
    rw [Nat.testBit_and, testBit_mset, Nat.testBit_two_pow]
    by_cases hj : x = j
    · subst hj; simp [h]
    · simp [hj]
  have := or_two (mset p n) (2 ^ x)
  omega
theorem nameP_apart (s : Nat) (p : List Int) (m x : Nat) (hp : p.Nodup) (hx : p[m]? = some (x : Int)) : nameP s p m x = false := by
  unfold nameP
  rw [List.any_eq_false]
  intro k hk
  have hk := List.mem_range.1 hk
  have := nodup_take hp hx
  intro h
  simp only [Bool.and_eq_true, beq_iff_eq] at h
  exact this (List.mem_iff_getElem?.2 ⟨k, by rw [List.getElem?_take, if_pos hk, h.2]⟩)
theorem nameP_add (s : Nat) (p : List Int) (m x : Nat) (hp : p.Nodup) (hx : p[m]? = some (x : Int)) (h5 : x < 5) : mset (nameP s p (m + 1)) 5 = mset (nameP s p m) 5 + bit s m * 2 ^ x := by
  have := bit_lt s m
  obtain h | h : bit s m = 0 ∨ bit s m = 1 := by omega
  · rw [nameP_no s p m h, h]; simp
  · rw [nameP_yes s p m x h hx h5, h, Nat.one_mul, mset_add_bit _ _ _ (nameP_apart s p m x hp hx)]
theorem setN_lt (p : List Int) (s : Nat) : setN p s < 32 := mset_lt _ 5

def stepN (p : List Int) (x : Int) : Int := if x < 5 then p.getD x.toNat 0 else x
def codeN (p xs : List Int) : List Int := xs.map (stepN p)
/-- the code whose first k steps are named -/
def midN (p xs : List Int) (k : Nat) : List Int := (xs.take k).map (stepN p) ++ xs.drop k
theorem midN_zero (p xs : List Int) : midN p xs 0 = xs := by simp [midN]
theorem midN_all (p xs : List Int) : midN p xs xs.length = codeN p xs := by simp [midN, codeN]
theorem midN_len (p xs : List Int) (k : Nat) : (midN p xs k).length = xs.length := by simp [midN]; omega
theorem midN_at (p xs : List Int) (k : Nat) : (midN p xs k)[k]? = xs[k]? := by
  unfold midN
  by_cases h : k ≤ xs.length
  · rw [List.getElem?_append_right (by simp; omega)]
    simp [Nat.min_eq_left h]
  · rw [List.getElem?_eq_none (by simp; omega), List.getElem?_eq_none (by omega)]
theorem midN_step (p xs : List Int) (k : Nat) (x : Int) (hx : xs[k]? = some x) : midN p xs (k + 1) = (midN p xs k).set k (stepN p x) := by
  obtain ⟨h1, h2⟩ := List.getElem?_eq_some_iff.1 hx
  unfold midN
  have e : (xs.take k).length = k := by simp; omega
  rw [List.set_append_right _ _ (by simp; omega), List.take_succ_eq_append_getElem h1, h2, List.drop_eq_getElem_cons h1, List.length_map, e, Nat.sub_self, List.set_cons_zero]
  simp
theorem midN_same (p xs : List Int) (k : Nat) (x : Int) (hx : xs[k]? = some x) (h : stepN p x = x) : midN p xs (k + 1) = midN p xs k := by
  rw [midN_step p xs k x hx, h]
  have := midN_at p xs k
  rw [hx] at this
  obtain ⟨h1, h2⟩ := List.getElem?_eq_some_iff.1 this
  conv => lhs; rw [← h2]
  exact List.set_getElem_self h1
theorem codeOk_range (xs : List Int) (h : codeOk xs = true) (k : Nat) (x : Int) (hx : xs[k]? = some x) : 0 ≤ x ∧ x ≤ 9 := by
  obtain ⟨h1, -⟩ := List.getElem?_eq_some_iff.1 hx
  obtain ⟨d, -, -, h2⟩ := codeOk_at xs h k (by omega)
  obtain ⟨d', h3⟩ := h2 x hx
  by_cases e : x < 0 ∨ 9 < x
  · unfold dStep at h3; rw [if_pos e] at h3; cases h3
  · omega

def deedN (p : List Int) (d : DeedD) : DeedD := ⟨codeN p d.need, setN p d.on.toNat, setN p d.off.toNat, setN p d.flip.toNat⟩
def taskNamed (t : TaskD) (p : List Int) : TaskD := if taskOk t = true ∧ permOk p = true ∧ p.length = 5 then ⟨setN p t.start.toNat, codeN p t.goal, t.deeds.map (deedN p)⟩ else ⟨0, [], []⟩
end Go.Proofs.Ytpcaagbmjhgnaaa

/- The laws' helpers that count how much an argument holds: szIntS, szDeed, szDeedS, szTask. -/
namespace Go.Proofs.Ytpcaagbmjhgnaaa
open Go.ChangeShapes Go.WideShapes Go.ChangeAt Go.RowKit

/-- what is left of a bound -/
def less (left : Int) (n : Nat) : Int := if (n : Int) ≤ left then left - n else -1
def szD (d : DeedD) : Nat := d.need.length
def szDs (ds : List DeedD) : Nat := ds.length + (ds.map szD).sum
def szT (t : TaskD) : Nat := t.goal.length + szDs t.deeds
theorem less_yes {left : Int} {n : Nat} (h : (n : Int) ≤ left) : less left n = left - n := by unfold less; rw [if_pos h]
theorem less_no {left : Int} {n : Nat} (h : ¬ (n : Int) ≤ left) : less left n = -1 := by unfold less; rw [if_neg h]

theorem szIntS_any (A : Option Addr) (n c : Nat) (left : Int) (w : World) (hn : n ≤ 9223372036854775807) (h0 : 0 ≤ left) (h1 : left ≤ 1048576) :
    Calls Try.prog 73 #[.slice A n c, .int .i64 left] w fun e w' => e = .returned (.int .i64 (less left n)) ∧ w = w' := by
  by_cases h : (n : Int) ≤ left
  · rw [less_yes h]
    go_enter Try.func73, Try.ntmps73
    go_wp2
    go_ret
    exact ⟨rfl, rfl⟩
  · rw [less_no h]
    go_enter Try.func73, Try.ntmps73
    go_wp2
    go_ret
    exact ⟨rfl, rfl⟩

theorem szDeed_any (A : Option Addr) (n c : Nat) (on off fl left : Int) (w : World) (hn : n ≤ 9223372036854775807) (h0 : 0 ≤ left) (h1 : left ≤ 1048576) :
    Calls Try.prog 135 #[.agg #[.slice A n c, .int .i64 on, .int .i64 off, .int .i64 fl], .int .i64 left] w fun e w' => e = .returned (.int .i64 (less left n)) ∧ Below w.heap.size w w' := by
  by_cases h : (n : Int) ≤ left
  · rw [less_yes h]
    go_enter Try.func135, Try.ntmps135
    go_wp2_with (go_at_call 73; refine (szIntS_any A n c left _ hn h0 h1).mono ?_; rw [less_yes h]; rintro e w' ⟨rfl, rfl⟩)
    go_ret
    exact ⟨rfl, (Below.refl _ _).alloc (Nat.le_refl _) _⟩
  · rw [less_no h]
    go_enter Try.func135, Try.ntmps135
    go_wp2_with (go_at_call 73; refine (szIntS_any A n c left _ hn h0 h1).mono ?_; rw [less_no h]; rintro e w' ⟨rfl, rfl⟩)
    go_ret
    exact ⟨rfl, (Below.refl _ _).alloc (Nat.le_refl _) _⟩

theorem sum_take (ds : List DeedD) (k : Nat) (d : DeedD) (hd : ds[k]? = some d) : ((ds.take (k + 1)).map szD).sum = ((ds.take k).map szD).sum + szD d := by
  obtain ⟨hk, he⟩ := List.getElem?_eq_some_iff.1 hd
  rw [List.take_succ_eq_append_getElem hk, he]; simp
theorem sum_take_le (ds : List DeedD) (k : Nat) : ((ds.take k).map szD).sum ≤ (ds.map szD).sum := by
  conv => rhs; rw [← List.take_append_drop k ds]
  rw [List.map_append, List.sum_append]; omega

theorem szDeedS_any {M : Nat} (hM : M ≤ 9223372036854775807) (A : Option Addr) (n c : Nat) (ds : List DeedD) (left : Int) (w : World) (h : RdDsM M w w.heap.size A n c ds) (h0 : 0 ≤ left) (h1 : left ≤ 1048576) :
    Calls Try.prog 83 #[.slice A n c, .int .i64 left] w fun e w' => e = .returned (.int .i64 (less left (szDs ds))) ∧ Below w.heap.size w w' := by
  have hl := h.len
  have hs := h.small
  have hsz : szDs ds = n + (ds.map szD).sum := by unfold szDs; rw [hl]
  have HL := Lib.hid hl
  have HSZ := Lib.hid hsz
  clear hl hsz
  by_cases hn : (n : Int) ≤ left
  case neg =>
    have HV : Hid (less left (szDs ds) = -1) := Lib.hid (less_no (by rw [HSZ.out]; omega))
    go_enter Try.func83, Try.ntmps83
    go_wp2
    go_ret
    exact ⟨ret_int HV.out.symm, Below.refl _ _⟩
  go_enter Try.func83, Try.ntmps83
  go_wp2
  go_loopw [5, 1] (fun i l wr => ∃ (k s : Nat), k ≤ n ∧ i = .int .i64 k ∧ l = .int .i64 (left - n - s) ∧ (s : Int) ≤ left - n ∧ Hid (((ds.take k).map szD).sum = s) ∧ Below w.heap.size w wr) (fun i _ _ => n - (intOf i).toNat)
  case atStart => exact ⟨0, 0, by omega, rfl, by simp, by omega, Lib.hid rfl, Below.refl _ _⟩
  case round =>
    obtain ⟨k, s, hk, rfl, rfl, hsl, hsum, hbel⟩ := hrel
    by_cases hlt : k < n
    · obtain ⟨b, off, d, rfl, hb, hd, hda⟩ := h.get hlt
      obtain ⟨An, nn, cn, q0, q1, q2, q3, hneed, hnn, -⟩ := (hda.keep hb (bcells hbel))
      have hst := sum_take ds k d hd
      rw [hsum.out] at hst
      have hdn : szD d = nn := hneed.len
      rw [hdn] at hst
      have HST := Lib.hid hst
      clear hd hda hst hdn
      go_wp2_with fail
      refine (szDeed_any An nn cn _ _ _ _ _ (by omega) (by omega) (by omega)).mono ?_
      by_cases hnx : (nn : Int) ≤ left - n - s
      · rw [less_yes hnx]
        rintro e w2 ⟨rfl, hb2⟩
        have hbel2 := hbel.trans (hb2.mono hbel.size)
        go_wp2
        go_roundw
        case rel => exact ⟨k + 1, s + nn, by omega, by go_num, by congr 1; omega, by omega, Lib.hid HST.out, hbel2⟩
        case measure => simp [intOf]; omega
      · rw [less_no hnx]
        rintro e w2 ⟨rfl, hb2⟩
        have hbel2 := hbel.trans (hb2.mono hbel.size)
        have HV : Hid (less left (szDs ds) = -1) := Lib.hid (less_no (by
          rw [HSZ.out]
          have := sum_take_le ds (k + 1)
          rw [HST.out] at this
          omega))
        go_wp2
        go_ret
        exact ⟨ret_int HV.out.symm, hbel2⟩
    · have hkn : k = n := by omega
      have hsm := hsum.out
      rw [hkn, ← HL.out, List.take_length] at hsm
      have HV : Hid (less left (szDs ds) = left - n - s) := Lib.hid (by rw [HSZ.out, hsm, less_yes (by omega)]; omega)
      clear hsm hkn
      go_wp2
      go_ret
      exact ⟨ret_int HV.out.symm, hbel⟩

theorem szTask_any {M : Nat} (hM : M ≤ 9223372036854775807) (v : Value) (t : TaskD) (left : Int) (w : World) (h : RdTM M w w.heap.size v t) (h0 : 0 ≤ left) (h1 : left ≤ 1048576) :
    Calls Try.prog 24 #[v, .int .i64 left] w fun e w' => e = .returned (.int .i64 (less left (szT t))) ∧ Below w.heap.size w w' := by
  obtain ⟨A, n, c, A', n', c', rfl, hg, hgs, hds, hst⟩ := h
  have hb0 : Below w.heap.size w (w.alloc (Obj.cells #[.int .i64 t.start, .slice A n c, .slice A' n' c'] 39)) := (Below.refl _ _).alloc (Nat.le_refl _) _
  have HDS := Lib.hid (hds.up hb0)
  have hsz : szT t = n + szDs t.deeds := by unfold szT; rw [hg.len]
  have HSZ := Lib.hid hsz
  clear hsz
  by_cases hn : (n : Int) ≤ left
  · go_enter Try.func24, Try.ntmps24
    go_wp2_with fail
    refine (szIntS_any A n c left _ (by omega) h0 h1).mono ?_
    rw [less_yes hn]
    rintro e w' ⟨rfl, rfl⟩
    go_wp2_with fail
    refine (szDeedS_any hM A' n' c' t.deeds _ _ HDS.out (by omega) (by omega)).mono ?_
    by_cases h2 : ((szDs t.deeds : Nat) : Int) ≤ left - n
    · rw [less_yes h2]
      have HV : Hid (less left (szT t) = left - n - (szDs t.deeds : Nat)) := Lib.hid (by rw [HSZ.out, less_yes (by omega)]; omega)
      generalize szDs t.deeds = z at *
      rintro e w2 ⟨rfl, hb2⟩
      go_wp2
      go_ret
      exact ⟨ret_int HV.out.symm, hb0.trans (hb2.mono hb0.size)⟩
    · rw [less_no h2]
      have HV : Hid (less left (szT t) = -1) := Lib.hid (less_no (by rw [HSZ.out]; omega))
      rintro e w2 ⟨rfl, hb2⟩
      go_wp2
      go_ret
      exact ⟨ret_int HV.out.symm, hb0.trans (hb2.mono hb0.size)⟩
  · have HV : Hid (less left (szT t) = -1) := Lib.hid (less_no (by rw [HSZ.out]; omega))
    go_enter Try.func24, Try.ntmps24
    go_wp2_with fail
    refine (szIntS_any A n c left _ (by omega) h0 h1).mono ?_
    rw [less_no (show ¬ (n : Int) ≤ left by omega)]
    rintro e w' ⟨rfl, rfl⟩
    go_wp2
    go_ret
    exact ⟨ret_int HV.out.symm, hb0⟩
end Go.Proofs.Ytpcaagbmjhgnaaa
