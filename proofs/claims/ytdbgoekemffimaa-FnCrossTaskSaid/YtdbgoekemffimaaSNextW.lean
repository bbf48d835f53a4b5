/- Joined texts: NextW, StepsOn. -/
import Derived.Test.YtdbgoekemffimaaSIso
import Derived.Test.YtdbgoekemffimaaSBack
import Derived.Test.YtdbgoekemffimaaSSteps
/- nextStates of the program: one step of the search forward. -/
namespace Go.Proofs.Ytdbgoekemffimaa
set_option linter.unusedVariables false
set_option linter.unusedSimpArgs false
open Go.ChangeShapes Go.WideShapes Go.ChangeAt Go.RowKit

/-- the deed leads from a state of the set below m to s -/
def hitF (d : DeedD) (S m s : Nat) : Bool := (List.range m).any fun s' => bit S s' == 1 && deedDo d s' == some s
def partF (ds : List DeedD) (d : DeedD) (S m : Nat) (s : Nat) : Bool := fwdP ds (setP S) s || hitF d S m s
theorem fwdP_nil (S : Nat → Bool) (s : Nat) : fwdP [] S s = false := by simp [fwdP]
theorem partF_zero (ds : List DeedD) (d : DeedD) (S : Nat) : mset (partF ds d S 0) 32 = mset (fwdP ds (setP S)) 32 := mset_congr fun k _ => by simp [partF, hitF]
theorem hitF_succ (d : DeedD) (S m s : Nat) : hitF d S (m + 1) s = (hitF d S m s || (bit S m == 1 && deedDo d m == some s)) := by
  unfold hitF; rw [List.range_succ, List.any_append]; simp
theorem any_or {α : Type} (l : List α) (p q : α → Bool) : (l.any fun a => p a || q a) = (l.any p || l.any q) := by
  induction l with
  | nil => rfl
  | cons a l ih => simp only [List.any_cons, ih]; cases p a <;> cases q a <;> simp
theorem partF_all (ds : List DeedD) (d : DeedD) (S k : Nat) (h : ds[k]? = some d) : mset (partF (ds.take k) d S 32) 32 = mset (fwdP (ds.take (k + 1)) (setP S)) 32 := mset_congr fun s hs => by
  rw [take_succ' h]
  unfold partF hitF fwdP setP
  simp only [List.any_append, List.any_cons, List.any_nil, Bool.or_false, Bool.and_or_distrib_left]
  rw [any_or]
theorem partF_no (ds : List DeedD) (d : DeedD) (S m : Nat) (h : bit S m = 1 → ∀ s, deedDo d m = some s → False) : mset (partF ds d S (m + 1)) 32 = mset (partF ds d S m) 32 := mset_congr fun s hs => by
  unfold partF
  rw [hitF_succ]
  have : (bit S m == 1 && deedDo d m == some s) = false := by
    rw [Bool.eq_false_iff]
    intro hh
    simp only [Bool.and_eq_true, beq_iff_eq] at hh
    exact h hh.1 s hh.2
  rw [this, Bool.or_false]
theorem partF_yes (ds : List DeedD) (d : DeedD) (S m q : Nat) (h : deedDo d m = some q) (hb : bit S m = 1) : ∀ j, j < 32 → partF ds d S (m + 1) j = (partF ds d S m j || decide (q = j)) := fun j hj => by
  unfold partF
  rw [hitF_succ, h, hb, Bool.or_assoc]
  congr 1
set_option maxRecDepth 100000 in
theorem nextStates_any (A : Option Addr) (n c : Nat) (ds : List DeedD) (S : Nat) (w : World) (h : RdRow w w.heap.size 32 A n c (ints (behL ds))) (hn : ds.length = n) (hd : ∀ d ∈ ds, deedOk d = true) (hn6 : n ≤ 6) (hS : S < 4294967296) :
    Calls Try.prog 64 #[.slice A n c, .int .i64 S] w fun e w' => e = .returned (.int .i64 (mset (fwdP ds (setP S)) 32 : Nat)) ∧ Below w.heap.size w w' := by
  have HR := Lib.hid h
  have HL := Lib.hid hn
  have HDOK := Lib.hid hd
  clear h hn hd
  go_enter Try.func64, Try.ntmps64
  go_wp2
  go_loopw [12, 5] (fun i sv wr => ∃ k M : Nat, k ≤ n ∧ i = .int .i64 k ∧ sv = .int .i64 M ∧ Hid (M = mset (fwdP (ds.take k) (setP S)) 32) ∧ Below w.heap.size w wr) (fun i _ _ => n - (intOf i).toNat)
  case atStart => exact ⟨0, 0, by omega, rfl, rfl, Lib.hid (mset_zero.2 fun s _ => fwdP_nil _ s).symm, Below.refl _ _⟩
  case round =>
    obtain ⟨k, M, hk, rfl, rfl, HM, hbel⟩ := hrel
    have HB := Lib.hid hbel
    clear hbel
    by_cases hlt : k < n
    · obtain ⟨b, off, d, rfl, hb, hdk, hrow⟩ := beh_row HR.out HL.out hlt
      have HLD : Hid (∀ j v, (rowOf d)[j]? = some v → wr.cell? ⟨b, off + k * 32 + j, none⟩ = some v) := Lib.hid fun j v hv => (bcells HB.out b _ hb).trans (hrow j v hv)
      have HDK := Lib.hid hdk
      clear hrow hdk
      go_wp2_with (first
        | (refine wpList_load_arr 72 (.tmp 14) rfl rfl 3 32 undBeh b (off + k * 32) (rowOf d) rfl (by rw [rowOf_len]; exact infoBeh) HLD.out ?_)
        | (refine wpList_store_arr 72 (.tmp 7) (.tmp 15) rfl rfl _ (rowOf d) rfl rfl (by rw [rowOf_len]; exact infoBeh) (by rw [rowOf_len]; rfl) (by simp [rowOf, Value.oneCell']) ?_)
        | (refine wpList_load_arr 72 (.tmp 7) rfl rfl 3 32 undBeh wr.heap.size 0 (rowOf d) rfl (by rw [rowOf_len]; exact infoBeh) (by simp) ?_))
      have HM0 : Hid (M = mset (partF (ds.take k) d S 0) 32) := Lib.hid (HM.out.trans (partF_zero _ _ _).symm)
      have HDO := Lib.hid (HDOK.out d (List.mem_of_getElem? HDK.out))
      have HB1 : Hid (Below w.heap.size w (wr.alloc (.cells (rowOf d).toArray 72))) := Lib.hid (HB.out.alloc HB.out.size _)
      have HRO := Lib.hid (rowOf_at d)
      have HLEN := Lib.hid (rowOf_len d)
      generalize rowOf d = R at HRO HLEN HB1 ⊢
      clear HLD HM
      go_loopw [17, 5] (fun i sv wr => ∃ m M : Nat, m ≤ 32 ∧ i = .int .i64 m ∧ sv = .int .i64 M ∧ Hid (M = mset (partF (ds.take k) d S m) 32) ∧ Below w.heap.size w wr) (fun i _ _ => 32 - (intOf i).toNat)
      case atStart => exact ⟨0, M, by omega, rfl, rfl, HM0, HB1.out⟩
      case round =>
        clear HM0 HB1 HB
        obtain ⟨m, M1, hm32, rfl, rfl, HM, hbel⟩ := hrel
        have HB := Lib.hid hbel
        clear hbel
        by_cases hm : m < 32
        · obtain ⟨o, ho⟩ : ∃ o, deedDo d m = o := ⟨_, rfl⟩
          have hix := HRO.out m hm
          rw [ho] at hix
          have HIX := fun w => run_index_arr (P := Try.prog) (w := w) (xs := R) (k := m) (v := .int .i64 (opt o)) undBeh hix HLEN.out infoInt Try.underlying3
          have HO := Lib.hid ho
          clear ho
          cases o with
          | none =>
            have HM2 : Hid (M1 = mset (partF (ds.take k) d S (m + 1)) 32) := Lib.hid (HM.out.trans (partF_no _ d S m (by rw [HO.out]; exact fun _ _ h => by cases h)).symm)
            simp only [opt] at HIX
            go_wp2
            go_roundw
            case rel => exact ⟨m + 1, M1, by omega, by go_num, rfl, HM2, HB.out⟩
            case measure => simp [intOf]; omega
          | some q =>
            have hq := deedDo_lt d m q HDO.out hm HO.out
            have hbit := and_one S m (by omega)
            simp only [opt] at HIX
            by_cases hs1 : bit S m = 1
            · rw [hs1] at hbit
              have hpw := wrap_pow q (by omega)
              have hor := or_member hq HM.out (partF_yes (ds.take k) d S m q HO.out hs1)
              clear hs1
              go_wp2
              go_roundw
              case rel => exact ⟨m + 1, _, by omega, by go_num, rfl, Lib.hid rfl, HB.out⟩
              case measure => simp [intOf]; omega
            · have hs0 : bit S m = 0 := by have := bit_lt S m; omega
              rw [hs0] at hbit
              have HM2 : Hid (M1 = mset (partF (ds.take k) d S (m + 1)) 32) := Lib.hid (HM.out.trans (partF_no _ d S m (fun h _ _ => absurd (hs0.symm.trans h) (by decide))).symm)
              clear hs1 hs0
              go_wp2
              go_roundw
              case rel => exact ⟨m + 1, M1, by omega, by go_num, rfl, HM2, HB.out⟩
              case measure => simp [intOf]; omega
        · have HM2 : Hid (M1 = mset (fwdP (ds.take (k + 1)) (setP S)) 32) := Lib.hid (by rw [HM.out, show m = 32 by omega]; exact partF_all ds d S k HDK.out)
          go_wp2
          go_roundw
          case rel => exact ⟨k + 1, M1, by omega, by go_num, rfl, HM2, HB.out⟩
          case measure => simp [intOf]; omega
    · have HF : Hid (M = mset (fwdP ds (setP S)) 32) := Lib.hid (by
        rw [HM.out, List.take_of_length_le (by rw [HL.out]; omega)])
      go_wp2
      go_ret
      exact ⟨ret_int (by rw [HF.out]), HB.out⟩
end Go.Proofs.Ytdbgoekemffimaa

/- stepsOn of the program: for each state the least number of deeds from a state. -/
namespace Go.Proofs.Ytdbgoekemffimaa
set_option linter.unusedVariables false
set_option linter.unusedSimpArgs false
open Go.ChangeShapes Go.WideShapes Go.ChangeAt Go.RowKit

def only (s0 : Nat) : Nat → Bool := fun s => decide (s0 = s)
theorem mset_only {s0 : Nat} (h : s0 < 32) : mset (only s0) 32 = 2 ^ s0 := by
  have := mset_or_bit (fun _ => false) 32 s0 h
  rw [show mset (fun _ => false) 32 = 0 from mset_zero.2 fun _ _ => rfl, Nat.zero_or] at this
  rw [this]
  exact mset_congr fun k _ => by simp [only]
/-- the least numbers of deeds -/
def distL (ds : List DeedD) (p : Nat → Bool) : List Int := (List.range 32).map (dstV ds p)
theorem fwd_set {ds : List DeedD} (p : Nat → Bool) : mset (fwdP ds (setP (mset p 32))) 32 = mset (fwdP ds p) 32 := mset_congr fun s hs => fwdP_congr (setP_mset p)
/-- what is new -/
def freshF (ds : List DeedD) (p : Nat → Bool) (m : Nat) : Nat → Bool := fun s => fwdP ds (fwd ds p m) s && !fwd ds p m s
end Go.Proofs.Ytdbgoekemffimaa
