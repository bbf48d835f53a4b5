/- Joined texts: Bits, Draws, Fwd, NextW. -/
import Derived.Test.YtkimgdfcgfhibaaDoorSGraph
import Derived.Test.YtkimgdfcgfhibaaDoorSNum
import Derived.Test.YtkimgdfcgfhibaaDoorSTDraw2
import Derived.Test.YtkimgdfcgfhibaaDoorSIso
import Derived.Test.YtkimgdfcgfhibaaDoorSBack
/- The laws' own helpers on sets: both, other, bits. Conditions: sets from 0 on and below 2^40. -/
namespace Go.Proofs.YtkimgdfcgfhibaaDoor
open Go.ChangeShapes Go.WideShapes Go.ChangeAt Go.RowKit

theorem tmod2 (m k : Nat) : ((m : Int) / 2 ^ k).tmod 2 = (bit m k : Nat) := by
  have e : ((m : Int) / 2 ^ k) = ((m / 2 ^ k : Nat) : Int) := by simp
  rw [e, Int.tmod_eq_emod_of_nonneg (Int.natCast_nonneg _)]
  unfold bit; simp
def bitSum (n : Nat) : Nat → Nat
  | 0 => 0
  | k + 1 => bitSum n k + bit n k
theorem bitSum_le (n k : Nat) : bitSum n k ≤ k := by
  induction k with
  | zero => simp [bitSum]
  | succ k ih => have := bit_lt n k; simp only [bitSum]; omega
theorem lawBits_nat (n : Nat) (w : World) :
    Calls Tryd.prog 28 #[.int .i64 n] w fun e w' => e = .returned (.int .i64 (bitSum n 40 : Nat)) ∧ w = w' := by
  go_enter Tryd.func28, Tryd.ntmps28
  go_wp2
  go_loop [3, 4] (fun o i => ∃ k : Nat, k ≤ 40 ∧ i = .int .i64 k ∧ o = .int .i64 (bitSum n k : Nat)) (fun _ i => 40 - (intOf i).toNat)
  case atStart => exact ⟨0, by omega, rfl, rfl⟩
  case round =>
    obtain ⟨k, hk, rfl, rfl⟩ := hrel
    by_cases hlt : k < 40
    · have h2 := tmod2 n k
      have l1 := bit_lt n k
      have l2 := bitSum_le n k
      by_cases h1 : bit n k = 1
      · have H1 : Hid (bitSum n (k + 1) = bitSum n k + 1) := Lib.hid (by rw [bitSum, h1])
        rw [h1] at h2
        clear h1 l1
        go_wp2
        go_round
        case rel => exact ⟨k + 1, by omega, by go_num, by rw [H1.out]; go_num⟩
        case measure => simp [intOf]; omega
      · have h1' : bit n k = 0 := by omega
        have H1 : Hid (bitSum n (k + 1) = bitSum n k) := Lib.hid (by rw [bitSum, h1']; rfl)
        rw [h1'] at h2
        clear h1 h1' l1
        go_wp2
        go_round
        case rel => exact ⟨k + 1, by omega, by go_num, by rw [H1.out]⟩
        case measure => simp [intOf]; omega
    · obtain rfl : k = 40 := by omega
      go_wp2
      go_ret
      exact ⟨rfl, rfl⟩
end Go.Proofs.YtkimgdfcgfhibaaDoor

/- l20Open within a list of things; the draws that only draw a task. -/
namespace Go.Proofs.YtkimgdfcgfhibaaDoor
set_option linter.unusedVariables false
set_option linter.unusedSimpArgs false
open Go.ChangeShapes Go.WideShapes Go.ChangeAt Go.RowKit

theorem l20Open_rd {w W : World} {L : List HRes} (S : St w W L) {A : Option Addr} {n c : Nat} {xs : List Int} (h : RdI .u8 w w.heap.size A n c xs) :
    Calls Tryd.prog 31 #[.slice A n c] W fun e w' => ∃ g, e = .returned (.pointer (some ⟨g, 0, none⟩)) ∧ St w w' (rRd w g 0 :: L) := by
  have hn := h.cap
  have hm := h.capMax
  unfold maxLen at hm
  by_cases hb : 2000 < n
  · have HS : Hid (St w (W.alloc (.cells #[.slice A 2000 c, .int .i64 0] 90)) (rRd w W.heap.size 0 :: L)) := Lib.hid ((S.allocF #[.slice A 2000 c, .int .i64 0] 90).see fun F ⟨h1, h2⟩ _ => ⟨h2, 0, A, 2000, c, _, Nat.le_refl _, Nat.le_refl _, rdI_prefix h 2000 (by omega), h1⟩)
    clear S
    go_enter Tryd.func31, Tryd.ntmps31
    go_wp2
    go_ret
    exact ⟨_, rfl, HS.out⟩
  · have HS : Hid (St w (W.alloc (.cells #[.slice A n c, .int .i64 0] 90)) (rRd w W.heap.size 0 :: L)) := Lib.hid ((S.allocF #[.slice A n c, .int .i64 0] 90).see fun F ⟨h1, h2⟩ _ => ⟨h2, 0, A, n, c, _, Nat.le_refl _, by omega, h, h1⟩)
    clear S
    go_enter Tryd.func31, Tryd.ntmps31
    go_wp2
    go_ret
    exact ⟨_, rfl, HS.out⟩
/-- what a draw of a task gives -/
def GivesT (w : World) (e : Ending) (w' : World) : Prop := ∃ v t, e = .returned v ∧ TaskSm t ∧ St w w' [rTask v t]
end Go.Proofs.YtkimgdfcgfhibaaDoor

/- Plain law: the search forward, layer by layer, and ways counted forward and backward; no program in sight. -/
namespace Go.Proofs.YtkimgdfcgfhibaaDoor
set_option linter.unusedVariables false
set_option linter.unusedSimpArgs false

def dstN (ds : List DeedD) (S : Nat → Bool) : Nat → Nat → Int
  | 0, s => if S s then 0 else -1
  | n + 1, s => if fwd ds S n s then dstN ds S n s else if fwdP ds (fwd ds S n) s then ((n + 1 : Nat) : Int) else -1
def dstV (ds : List DeedD) (S : Nat → Bool) (s : Nat) : Int := dstN ds S 32 s
/-- nothing is added any more -/
def ffixedAt (ds : List DeedD) (S : Nat → Bool) (n : Nat) : Prop := ∀ s, s < 32 → fwdP ds (fwd ds S n) s = true → fwd ds S n s = true
section
variable {ds : List DeedD} {S : Nat → Bool}
theorem fwdP_congr {T : Nat → Bool} {s : Nat} (h : ∀ s', s' < 32 → S s' = T s') : fwdP ds S s = fwdP ds T s := by
  rw [Bool.eq_iff_iff, fwdP_iff, fwdP_iff]
  constructor
  · rintro ⟨s', h1, h2, h3⟩; exact ⟨s', h1, by rw [← h s' h1]; exact h2, h3⟩
  · rintro ⟨s', h1, h2, h3⟩; exact ⟨s', h1, by rw [h s' h1]; exact h2, h3⟩
theorem fwd_succ {n s : Nat} (h : fwd ds S n s = true) : fwd ds S (n + 1) s = true := by simp [fwd, h]
theorem fwd_mono {m n s : Nat} (hmn : m ≤ n) (h : fwd ds S m s = true) : fwd ds S n s = true := by
  induction n with
  | zero => have : m = 0 := by omega
            subst this; exact h
  | succ n ih =>
    rcases Nat.lt_or_ge m (n + 1) with h1 | h1
    · exact fwd_succ (ih (by omega))
    · have : m = n + 1 := by omega
      subst this; exact h
theorem dstN_neg {n s : Nat} : fwd ds S n s = false → dstN ds S n s = -1 := by
  cases n with
  | zero => intro h; simp only [fwd] at h; simp [dstN, h]
  | succ n =>
    intro h
    simp only [fwd, Bool.or_eq_false_iff] at h
    simp [dstN, h.1, h.2]
theorem dstN_at {n s : Nat} (h : fwd ds S n s = true) : ∃ k, k ≤ n ∧ dstN ds S n s = (k : Int) ∧ fwd ds S k s = true ∧ ∀ m, m < k → fwd ds S m s = false := by
  induction n with
  | zero => exact ⟨0, Nat.le_refl _, by simp only [fwd] at h; simp [dstN, h], h, fun m hm => absurd hm (by omega)⟩
  | succ n ih =>
    cases hn : fwd ds S n s with
    | true =>
      obtain ⟨k, h1, h2, h3⟩ := ih hn
      exact ⟨k, by omega, by simp [dstN, hn, h2], h3⟩
    | false =>
      have hb : fwdP ds (fwd ds S n) s = true := by simpa [fwd, hn] using h
      refine ⟨n + 1, Nat.le_refl _, by simp [dstN, hn, hb], h, fun m hm => ?_⟩
      cases e : fwd ds S m s with
      | false => rfl
      | true => rw [fwd_mono (by omega) e] at hn; cases hn
theorem dstN_nonneg {n s : Nat} : (0 ≤ dstN ds S n s) ↔ fwd ds S n s = true := by
  constructor
  · intro h
    cases e : fwd ds S n s with
    | true => rfl
    | false => rw [dstN_neg e] at h; omega
  · intro h
    obtain ⟨k, -, h2, -⟩ := dstN_at h
    omega
theorem dstN_le {n s : Nat} : -1 ≤ dstN ds S n s ∧ dstN ds S n s ≤ n := by
  cases e : fwd ds S n s with
  | false => rw [dstN_neg e]; omega
  | true => obtain ⟨k, h1, h2, -⟩ := dstN_at e; omega
/-- it is k exactly if k is the first fwd -/
theorem dstN_eq {n k s : Nat} (hk : k ≤ n) (h1 : fwd ds S k s = true) (h2 : ∀ m, m < k → fwd ds S m s = false) : dstN ds S n s = (k : Int) := by
  obtain ⟨j, -, h4, h5, h6⟩ := dstN_at (fwd_mono hk h1)
  rcases Nat.lt_trichotomy j k with h | h | h
  · rw [h2 j h] at h5; cases h5
  · rw [h4, h]
  · rw [h6 k h] at h1; cases h1

theorem ffixed_fwd {n : Nat} (h : ffixedAt ds S n) (m : Nat) : ∀ s, s < 32 → fwd ds S (n + m) s = fwd ds S n s := by
  induction m with
  | zero => intro s _; rfl
  | succ m ih =>
    intro s hs
    rw [← Nat.add_assoc]
    simp only [fwd]
    rw [ih s hs, fwdP_congr ih]
    cases hb : fwdP ds (fwd ds S n) s with
    | false => simp
    | true => rw [h s hs hb]; rfl
theorem ffixed_step {n : Nat} (h : ffixedAt ds S n) {m : Nat} (hm : n ≤ m) {s : Nat} (hs : s < 32) : dstN ds S m s = dstN ds S n s := by
  have hl := ffixed_fwd h (m - n) s hs
  rw [show n + (m - n) = m by omega] at hl
  cases e : fwd ds S n s with
  | false => rw [dstN_neg e, dstN_neg (hl.trans e)]
  | true =>
    obtain ⟨k, h1, h2, h3, h4⟩ := dstN_at e
    rw [h2]; exact dstN_eq (by omega) h3 h4
theorem cnt_growF {n : Nat} (h : ¬ ffixedAt ds S n) : cnt (fwd ds S n) 32 < cnt (fwd ds S (n + 1)) 32 := by
  unfold ffixedAt at h
  simp only [Classical.not_forall] at h
  obtain ⟨s, hs, hb, hl⟩ := h
  exact cnt_lt (fun k _ => fwd_succ) hs (by simpa using hl) (by simp [fwd, hb])
theorem ffixed_more {n : Nat} (h : ffixedAt ds S n) {m : Nat} (hm : n ≤ m) : ffixedAt ds S m := by
  intro s hs hb
  have e : ∀ s, s < 32 → fwd ds S m s = fwd ds S n s := fun s hs => by
    have := ffixed_fwd h (m - n) s hs
    rwa [show n + (m - n) = m by omega] at this
  rw [fwdP_congr e] at hb
  rw [e s hs]
  exact h s hs hb
/-- behind 31 rounds nothing is added -/
theorem ffixed31 : ffixedAt ds S 31 := by
  have key : ∀ n, (∃ s, s < 32 ∧ S s = true) → ffixedAt ds S n ∨ n + 1 ≤ cnt (fwd ds S n) 32 := by
    intro n hne
    induction n with
    | zero => exact .inr (cnt_pos.2 hne)
    | succ n ih =>
      by_cases hf : ffixedAt ds S n
      · exact .inl (ffixed_more hf (by omega))
      · rcases ih with h | h
        · exact absurd h hf
        · have := cnt_growF hf; exact .inr (by omega)
  by_cases hne : ∃ s, s < 32 ∧ S s = true
  · rcases key 31 hne with h | h
    · exact h
    · intro s hs _
      cases e : fwd ds S 31 s with
      | true => rfl
      | false =>
        have := cnt_lt (p := fwd ds S 31) (q := fun _ => true) (n := 32) (fun _ _ _ => rfl) hs e rfl
        have h2 := cnt_le (fun _ => true) 32
        omega
  · have h0 : ffixedAt ds S 0 := by
      intro s hs hb
      obtain ⟨s', h1, h2, -⟩ := fwdP_iff.1 hb
      exact absurd ⟨s', h1, h2⟩ hne
    exact ffixed_more h0 (by omega)
theorem dstV_31 {s : Nat} (hs : s < 32) : dstV ds S s = dstN ds S 31 s := ffixed_step (ffixed31) (by omega) hs
theorem dstV_le {s : Nat} (hs : s < 32) : -1 ≤ dstV ds S s ∧ dstV ds S s ≤ 31 := by
  rw [dstV_31 hs]; exact dstN_le
theorem dstV_fixed {n s : Nat} (h : ffixedAt ds S n) (hs : s < 32) : dstV ds S s = dstN ds S n s := by
  rcases Nat.lt_or_ge n 32 with hn | hn
  · exact ffixed_step h (by omega) hs
  · exact (ffixed_step (ffixed_more (ffixed31) (show 31 ≤ 32 by omega)) hn hs).symm

end
end Go.Proofs.YtkimgdfcgfhibaaDoor

/- nextStates of the program: one step of the search forward. -/
namespace Go.Proofs.YtkimgdfcgfhibaaDoor
set_option linter.unusedVariables false
set_option linter.unusedSimpArgs false
open Go.ChangeShapes Go.WideShapes Go.ChangeAt Go.RowKit

/-- the deed leads from a state of the set below m to s -/
def hitF (d : DeedD) (S m s : Nat) : Bool := (List.range m).any fun s' => bit S s' == 1 && deedDo d s' == some s
def partF (ds : List DeedD) (d : DeedD) (S m : Nat) (s : Nat) : Bool := fwdP ds (setP S) s || hitF d S m s
theorem fwdP_nil (S : Nat → Bool) (s : Nat) : fwdP [] S s = false := by simp [fwdP]
theorem partF_zero (ds : List DeedD) (d : DeedD) (S : Nat) : mset (partF ds d S 0) 32 = mset (fwdP ds (setP S)) 32 := mset_congr fun k _ => by simp [partF, hitF]
theorem hitF_succ (d : DeedD) (S m s : Nat) : hitF d S (m + 1) s = (hitF d S m s || (bit S m == 1 && deedDo d m == some s)) := by
  unfold hitF; rw [List.range_succ, List.any_append]; simp
theorem any_or {α : Type} (l : List α) (p q : α → Bool) : (l.any fun a => p a || q a) = (l.any p || l.any q) := by
  induction l with
  | nil => rfl
  | cons a l ih => simp only [List.any_cons, ih]; cases p a <;> cases q a <;> simp
theorem partF_all (ds : List DeedD) (d : DeedD) (S k : Nat) (h : ds[k]? = some d) : mset (partF (ds.take k) d S 32) 32 = mset (fwdP (ds.take (k + 1)) (setP S)) 32 := mset_congr fun s hs => by
  rw [take_succ' h]
  unfold partF hitF fwdP setP
  simp only [List.any_append, List.any_cons, List.any_nil, Bool.or_false, Bool.and_or_distrib_left]
  rw [any_or]
theorem partF_no (ds : List DeedD) (d : DeedD) (S m : Nat) (h : bit S m = 1 → ∀ s, deedDo d m = some s → False) : mset (partF ds d S (m + 1)) 32 = mset (partF ds d S m) 32 := mset_congr fun s hs => by
  unfold partF
  rw [hitF_succ]
  have : (bit S m == 1 && deedDo d m == some s) = false := by
    rw [Bool.eq_false_iff]
    intro hh
    simp only [Bool.and_eq_true, beq_iff_eq] at hh
    exact h hh.1 s hh.2
  rw [this, Bool.or_false]
theorem partF_yes (ds : List DeedD) (d : DeedD) (S m q : Nat) (h : deedDo d m = some q) (hb : bit S m = 1) : ∀ j, j < 32 → partF ds d S (m + 1) j = (partF ds d S m j || decide (q = j)) := fun j hj => by
  unfold partF
  rw [hitF_succ, h, hb, Bool.or_assoc]
  congr 1
set_option maxRecDepth 100000 in
theorem nextStates_any (A : Option Addr) (n c : Nat) (ds : List DeedD) (S : Nat) (w : World) (h : RdRow w w.heap.size 32 A n c (ints (behL ds))) (hn : ds.length = n) (hd : ∀ d ∈ ds, deedOk d = true) (hn6 : n ≤ 6) (hS : S < 4294967296) :
    Calls Tryd.prog 57 #[.slice A n c, .int .i64 S] w fun e w' => e = .returned (.int .i64 (mset (fwdP ds (setP S)) 32 : Nat)) ∧ Below w.heap.size w w' := by
  have HR := Lib.hid h
  have HL := Lib.hid hn
  have HDOK := Lib.hid hd
  clear h hn hd
  go_enter Tryd.func57, Tryd.ntmps57
  go_wp2
  go_loopw [12, 5] (fun i sv wr => ∃ k M : Nat, k ≤ n ∧ i = .int .i64 k ∧ sv = .int .i64 M ∧ Hid (M = mset (fwdP (ds.take k) (setP S)) 32) ∧ Below w.heap.size w wr) (fun i _ _ => n - (intOf i).toNat)
  case atStart => exact ⟨0, 0, by omega, rfl, rfl, Lib.hid (mset_zero.2 fun s _ => fwdP_nil _ s).symm, Below.refl _ _⟩
  case round =>
    obtain ⟨k, M, hk, rfl, rfl, HM, hbel⟩ := hrel
    have HB := Lib.hid hbel
    clear hbel
    by_cases hlt : k < n
    · obtain ⟨b, off, d, rfl, hb, hdk, hrow⟩ := beh_row HR.out HL.out hlt
      have HLD : Hid (∀ j v, (rowOf d)[j]? = some v → wr.cell? ⟨b, off + k * 32 + j, none⟩ = some v) := Lib.hid fun j v hv => (bcells HB.out b _ hb).trans (hrow j v hv)
      have HDK := Lib.hid hdk
      clear hrow hdk
      go_wp2_with (first
        | (refine wpList_load_arr 77 (.tmp 14) rfl rfl 3 32 undBeh b (off + k * 32) (rowOf d) rfl (by rw [rowOf_len]; exact infoBeh) HLD.out ?_)
        | (refine wpList_store_arr 77 (.tmp 7) (.tmp 15) rfl rfl _ (rowOf d) rfl rfl (by rw [rowOf_len]; exact infoBeh) (by rw [rowOf_len]; rfl) (by simp [rowOf, Value.oneCell']) ?_)
        | (refine wpList_load_arr 77 (.tmp 7) rfl rfl 3 32 undBeh wr.heap.size 0 (rowOf d) rfl (by rw [rowOf_len]; exact infoBeh) (by simp) ?_))
      have HM0 : Hid (M = mset (partF (ds.take k) d S 0) 32) := Lib.hid (HM.out.trans (partF_zero _ _ _).symm)
      have HDO := Lib.hid (HDOK.out d (List.mem_of_getElem? HDK.out))
      have HB1 : Hid (Below w.heap.size w (wr.alloc (.cells (rowOf d).toArray 77))) := Lib.hid (HB.out.alloc HB.out.size _)
      have HRO := Lib.hid (rowOf_at d)
      have HLEN := Lib.hid (rowOf_len d)
      generalize rowOf d = R at HRO HLEN HB1 ⊢
      clear HLD HM
      go_loopw [17, 5] (fun i sv wr => ∃ m M : Nat, m ≤ 32 ∧ i = .int .i64 m ∧ sv = .int .i64 M ∧ Hid (M = mset (partF (ds.take k) d S m) 32) ∧ Below w.heap.size w wr) (fun i _ _ => 32 - (intOf i).toNat)
      case atStart => exact ⟨0, M, by omega, rfl, rfl, HM0, HB1.out⟩
      case round =>
        clear HM0 HB1 HB
        obtain ⟨m, M1, hm32, rfl, rfl, HM, hbel⟩ := hrel
        have HB := Lib.hid hbel
        clear hbel
        by_cases hm : m < 32
        · obtain ⟨o, ho⟩ : ∃ o, deedDo d m = o := ⟨_, rfl⟩
          have hix := HRO.out m hm
          rw [ho] at hix
          have HIX := fun w => run_index_arr (P := Tryd.prog) (w := w) (xs := R) (k := m) (v := .int .i64 (opt o)) undBeh hix HLEN.out infoInt Tryd.underlying3
          have HO := Lib.hid ho
          clear ho
          cases o with
          | none =>
            have HM2 : Hid (M1 = mset (partF (ds.take k) d S (m + 1)) 32) := Lib.hid (HM.out.trans (partF_no _ d S m (by rw [HO.out]; exact fun _ _ h => by cases h)).symm)
            simp only [opt] at HIX
            go_wp2
            go_roundw
            case rel => exact ⟨m + 1, M1, by omega, by go_num, rfl, HM2, HB.out⟩
            case measure => simp [intOf]; omega
          | some q =>
            have hq := deedDo_lt d m q HDO.out hm HO.out
            have hbit := and_one S m (by omega)
            simp only [opt] at HIX
            by_cases hs1 : bit S m = 1
            · rw [hs1] at hbit
              have hpw := wrap_pow q (by omega)
              have hor := or_member hq HM.out (partF_yes (ds.take k) d S m q HO.out hs1)
              clear hs1
              go_wp2
              go_roundw
              case rel => exact ⟨m + 1, _, by omega, by go_num, rfl, Lib.hid rfl, HB.out⟩
              case measure => simp [intOf]; omega
            · have hs0 : bit S m = 0 := by have := bit_lt S m; omega
              rw [hs0] at hbit
              have HM2 : Hid (M1 = mset (partF (ds.take k) d S (m + 1)) 32) := Lib.hid (HM.out.trans (partF_no _ d S m (fun h _ _ => absurd (hs0.symm.trans h) (by decide))).symm)
              clear hs1 hs0
              go_wp2
              go_roundw
              case rel => exact ⟨m + 1, M1, by omega, by go_num, rfl, HM2, HB.out⟩
              case measure => simp [intOf]; omega
        · have HM2 : Hid (M1 = mset (fwdP (ds.take (k + 1)) (setP S)) 32) := Lib.hid (by rw [HM.out, show m = 32 by omega]; exact partF_all ds d S k HDK.out)
          go_wp2
          go_roundw
          case rel => exact ⟨k + 1, M1, by omega, by go_num, rfl, HM2, HB.out⟩
          case measure => simp [intOf]; omega
    · have HF : Hid (M = mset (fwdP ds (setP S)) 32) := Lib.hid (by
        rw [HM.out, List.take_of_length_le (by rw [HL.out]; omega)])
      go_wp2
      go_ret
      exact ⟨ret_int (by rw [HF.out]), HB.out⟩
end Go.Proofs.YtkimgdfcgfhibaaDoor
