/- Joined texts: SplitW, LaidP, MayT, ClosP. -/
import Derived.Test.YtkmcengmglgdeaaGreatDoorSTaskTS
import Derived.Test.YtkmcengmglgdeaaGreatDoorSActsH
import Derived.Lib.IndexBytes
import Derived.Lib.SplitLaws
import Derived.Lib.AppendIntMem
import Derived.Test.YtkmcengmglgdeaaGreatDoorSLaid
import Derived.Lib.LaidTab
import Derived.Test.YtkmcengmglgdeaaGreatDoorSCondS

namespace Go.Proofs.YtkmcengmglgdeaaGreatDoor
set_option linter.unusedVariables false
set_option linter.unusedSimpArgs false
set_option maxRecDepth 100000
set_option maxHeartbeats 8000000
open Go.ChangeShapes Go.WideShapes Go.ChangeAt Go.RowKit
theorem mem_first {c : UInt8} {l : List UInt8} (h : c ∈ l) : ∃ a b, l = a ++ c :: b ∧ c ∉ a := by
 induction l with
 | nil => cases h
 | cons x l ih =>
  by_cases e : x = c
  ·exact ⟨[], l, by rw [e]; rfl, by simp⟩
  ·obtain ⟨a, b, rfl, ha⟩ := ih (by simpa [Ne.symm e] using h); exact ⟨x :: a, b, rfl, by simp [Ne.symm e, ha]⟩
theorem splitK_cut (c : UInt8) (n : Nat) : ∀ l : List UInt8, l.length ≤ n → Lib.splitK [c] 0 (l.count c) l = cutW c [] l := by
 induction n with
 | zero =>
  intro l hl; obtain rfl := List.eq_nil_of_length_eq_zero (Nat.le_zero.1 hl)
  rfl
 | succ n ih =>
  intro l hl
  by_cases h : c ∈ l
  ·obtain ⟨a, b, rfl, ha⟩ := mem_first h; have hi : Lib.index (a ++ c :: b) [c] = (a.length : Nat) := by rw [Lib.index_one, indexByte_at ha]
   have hc : (a ++ c :: b).count c = b.count c + 1 := by
    rw [List.count_append, List.count_cons_self, List.count_eq_zero_of_not_mem ha]; omega
   rw [hc, Lib.splitK, hi, if_neg (by simp), cutW_sep ha, Int.toNat_natCast]; simp only [Nat.add_zero, List.take_left, List.nil_append, List.length_cons, List.length_nil]; rw [show (a ++ c :: b).drop (a.length + (0 + 1)) = b by rw [← List.drop_drop, List.drop_left]; rfl]; rw [ih b (by simp at hl; omega)]
  ·rw [cutW_plain h, List.count_eq_zero_of_not_mem h]
   first | done | rfl
theorem split_sp (s : ByteArray) (w : World) (hs : s.size < 4294967281) :
  Calls Tryz.prog 194 #[.string s, .string ⟨#[32]⟩] w fun e w' => e = .returned (.slice (some ⟨w.heap.size, 0, none⟩) (cutW 32 [] s.data.toList).length (cutW 32 [] s.data.toList).length) ∧
   w' = w.alloc (.cells ((cutW 32 [] s.data.toList).map fun l => Value.string ⟨l.toArray⟩).toArray 9) := by
 have h1 : 1 ≤ (⟨#[32]⟩ : ByteArray).size := by decide
 have hle := Lib.countB_le ⟨#[32]⟩ h1 s.size s (Nat.le_refl _); have hlen := Lib.splitB_all ⟨#[32]⟩ h1 0 _ s rfl; have hcb : Lib.countB s ⟨#[32]⟩ = s.data.toList.count 32 := Lib.count_one 32 s.data.toList
 have hsp : (Lib.splitB ⟨#[32]⟩ 0 (Lib.countB s ⟨#[32]⟩) s).map (·.data.toList) = cutW 32 [] s.data.toList := by
  rw [Lib.splitB_data, hcb]; exact splitK_cut 32 _ _ (Nat.le_refl _)
 have c := Any.strings_genSplit_core Tryz.lays221 (by kernel_rfl) s ⟨#[32]⟩ 0 (-1) (Lib.countB s ⟨#[32]⟩ + 1) w hs h1 (Nat.zero_le _)
  (fun x c hx => (Tryz.strings_Index_one x 32 _).mono fun e w' ⟨he, hw⟩ => ⟨by rw [he]; show _ = Ending.returned (Value.int .i64 (Lib.index x.data.toList [32])); rw [Lib.index_one], hw⟩)
  ((Tryz.strings_Count_one s 32 w).mono fun e w' ⟨he, hw⟩ => ⟨by rw [he, hcb]; rfl, hw⟩)
  (by decide) (by decide) (by rw [if_pos (by decide)]; omega)
 rw [Nat.add_sub_cancel, hlen] at c; have e2 : Lib.cellsOf (Lib.splitB ⟨#[32]⟩ 0 (Lib.countB s ⟨#[32]⟩) s) (Lib.countB s ⟨#[32]⟩ + 1) = ((Lib.splitB ⟨#[32]⟩ 0 (Lib.countB s ⟨#[32]⟩) s).map Value.string).toArray := by rw [← hlen]; exact Lib.cellsOf_full _
 have e3 : (Lib.splitB ⟨#[32]⟩ 0 (Lib.countB s ⟨#[32]⟩) s).map Value.string = (cutW 32 [] s.data.toList).map fun l => Value.string ⟨l.toArray⟩ := by
  rw [← hsp, List.map_map]
  rfl
 have e4 : Lib.countB s ⟨#[32]⟩ + 1 = (cutW 32 [] s.data.toList).length := by rw [← hsp, List.length_map, hlen]
 rw [e2, e3, e4] at c; obtain ⟨m, hm⟩ : ∃ m, (cutW 32 [] s.data.toList).length = m := ⟨_, rfl⟩; obtain ⟨cs, hcs⟩ : ∃ cs, ((cutW 32 [] s.data.toList).map fun l => Value.string ⟨l.toArray⟩).toArray = cs := ⟨_, rfl⟩; rw [hm, hcs] at c ⊢
 have C := Lib.hid c; clear c e2 e3 e4 hsp hcb hlen hle hm hcs; go_enter Tryz.func194, Tryz.ntmps194
 go_wp2_with fail
 refine C.out.mono ?_; rintro e w' ⟨rfl, rfl⟩; go_wp2; go_ret; exact ⟨rfl, rfl⟩
def PowTab (w : World) : Prop := Lib.TabIs Tryz.prog w "internal/strconv.uint64pow10" .u64 Lib.pow10Tab
theorem PowTab.up {w w' : World} (h : PowTab w) (hb : Below w.heap.size w w') : PowTab w' := Lib.tabBelow_of_tabIs h w' hb
theorem decDigits_dec (n : Nat) : Lib.decDigits n = decT n := by
 induction n using Nat.strongRecOn with
 | _ n ih =>
  by_cases h : n < 10
  ·rw [Lib.decDigits_one h, decT_small h]; rfl
  ·rw [Lib.decDigits, dif_neg h, decT_great h, ih (n / 10) (by omega)]; rfl
theorem itoa_dec (n : Nat) (hn : n < 100000000000) (w : World) (h : PowTab w) :
  Calls Tryz.prog 95 #[.int .i64 (n : Int)] w fun e w' => e = .returned (.string ⟨(decT n).toArray⟩) ∧ Below w.heap.size w w' :=
 (Tryz.strconv_Itoa (n : Int) (by omega) (by omega) w h).mono fun e w' ⟨he, k, os, hw⟩ => by
  refine ⟨?_, ?_⟩
  ·rw [he]
   unfold Lib.itoa
   rw [if_neg (by omega), Int.toNat_natCast, decDigits_dec]
  ·subst hw; exact Lib.below_grow _ w (Nat.le_refl _) k os
open Go.ChangeShapes Go.WideShapes Go.RowKit
theorem powTab_of {l : List (String × DataW Unit)} {W : World} (h : laidMetH Tryz.prog l W) (hf : (l.filter fun x => x.1 == "internal/strconv.uint64pow10") = [("internal/strconv.uint64pow10", Rows.laid_internal_strconv_uint64pow10)]) : PowTab W := by
 have h1 := h.filter fun x => x.1 == "internal/strconv.uint64pow10"
 rw [hf] at h1; have h2 : laidMet Tryz.prog [("internal/strconv.uint64pow10", Lib.tabData .u64 Lib.pow10Tab)] W := h1; exact Lib.tabIs_of_head (g := 2) (t := 226) (e := 196) (n := 20) (by kernel_rfl) (by kernel_rfl) Tryz.underlying226 Tryz.underlying196 (by kernel_rfl) (by kernel_rfl) h2
def mayP : List Int → List UInt8
 | [] => []
 | x :: r => decT x.toNat ++ r.flatMap fun k => 44 :: decT k.toNat
theorem mayP_may {xs : List Int} (h : xs ≠ []) : mayT xs = mayP xs := by
 cases xs with
 | nil => exact absurd rfl h
 | cons x r => rfl
theorem mayP_zero {xs : List Int} {x : Int} (h : xs[0]? = some x) : mayP (xs.take 1) = decT x.toNat := by
 cases xs with
 | nil => cases h
 | cons y r => simp at h; subst h; simp [mayP]
theorem mayP_succ {xs : List Int} {k : Nat} {x : Int} (h : xs[k + 1]? = some x) : mayP (xs.take (k + 2)) = mayP (xs.take (k + 1)) ++ 44 :: decT x.toNat := by
 cases xs with
 | nil => cases h
 | cons y r =>
  simp only [List.getElem?_cons_succ] at h; simp only [List.take_succ_cons, mayP]; rw [List.take_add_one, h]
  simp
theorem mayP_len {xs : List Int} (h : ∀ x ∈ xs, 0 ≤ x ∧ x < 100) : (mayP xs).length ≤ 3 * xs.length := by
 have hd : ∀ x : Int, 0 ≤ x ∧ x < 100 → (decT x.toNat).length ≤ 2 := fun x hx => decT_len 1 _ (by omega)
 cases xs with
 | nil => simp [mayP]
 | cons y r =>
  have h1 := hd y (h y (List.mem_cons_self ..))
  have h2 : (r.flatMap fun k => 44 :: decT k.toNat).length ≤ 3 * r.length := by
   have h' : ∀ x ∈ r, 0 ≤ x ∧ x < 100 := fun x hx => h x (List.mem_cons_of_mem _ hx)
   clear h h1
   induction r with
   | nil => simp
   | cons z r ih =>
    have h3 := hd z (h' z (List.mem_cons_self ..))
    have := ih fun x hx => h' x (List.mem_cons_of_mem _ hx)
    simp only [List.flatMap_cons, List.length_append, List.length_cons]; omega
  simp only [mayP, List.length_append, List.length_cons]; omega
theorem mayText_any (A : Option Addr) (n c : Nat) (xs : List Int) (w : World) (h : RdI .i64 w w.heap.size A n c xs) (hx : ∀ x ∈ xs, 0 ≤ x ∧ x < 100) (hn : n ≤ 100) :
  Calls Tryz.prog 115 #[.slice A n c] w fun e w' => e = .returned (.string ⟨(mayT xs).toArray⟩) ∧ Below w.heap.size w w' := by
 have hl := h.len
 by_cases h0 : n = 0
 ·subst h0; obtain rfl := List.eq_nil_of_length_eq_zero hl; go_enter Tryz.func115, Tryz.ntmps115; go_wp2; go_ret; exact ⟨rfl, Below.refl _ _⟩
 have h0' : ((n : Int) == 0) = false := beq_false_of_ne (by omega); have HM : Hid (mayT xs = mayP xs) := Lib.hid (mayP_may (by rintro rfl; exact h0 (by simpa using hl.symm))); have HL := Lib.hid hl; have HX := Lib.hid hx; have H := Lib.hid h; obtain ⟨b, hb⟩ : ∃ b, w.heap.size = b := ⟨_, rfl⟩; have HT0 : Hid (TS w b (mayP (xs.take 0)) [] (w.alloc (.cells #[.pointer none, .slice none 0 0] 117))) := Lib.hid (by rw [← hb]; exact TS.new0 w); clear hl hx h h0; go_enter Tryz.func115, Tryz.ntmps115; go_wp2
 try rw [hb]
 clear hb h0'
 go_loopw [11] (fun i wr => ∃ k : Nat, k ≤ n ∧ i = .int .i64 k ∧ Hid (TS w b (mayP (xs.take k)) [] wr)) (fun i _ => n - (intOf i).toNat)
 case atStart => exact ⟨0, by omega, rfl, HT0⟩
 case round =>
  clear HT0; obtain ⟨k, hk, rfl, HT⟩ := hrel
  by_cases hlt : k < n
  ·obtain ⟨db, off, x, rfl, hdb, hxx, hw, hc⟩ := H.out.get hlt; have hcr : wr.cell? ⟨db, off + k, none⟩ = some (.int .i64 x) := (bcells HT.out.below db _ hdb).trans hc; have hxm := HX.out x (List.mem_of_getElem? hxx); obtain ⟨x, rfl⟩ := Int.eq_ofNat_of_zero_le hxm.1; have hx100 : x < 100 := by omega
   have HZ := Lib.hid (show (mayP (xs.take k)).length ≤ 300 by
    have h1 := mayP_len (xs := xs.take k) fun x hx => HX.out x (List.mem_of_mem_take hx)
    have : (xs.take k).length ≤ k := List.length_take_le _ _
    omega)
   have HN2 := Lib.hid (num2_len x).2; have HD : Hid (decT x = num2 x) := Lib.hid (decT_100 hx100); have HXX := Lib.hid hxx; clear hc hw hxx hxm
   rcases Nat.eq_zero_or_pos k with hk0 | hk0
   ·subst hk0; simp only [Nat.add_zero] at hcr
    go_wp2_with fail
    refine (itoa_small x hx100 _).mono ?_; rintro e w1 ⟨rfl, rfl⟩
    go_wp2_with fail
    refine (HT.out.ws _ (num2 x) rfl (by have := HZ.out; have := HN2.out; omega)).mono ?_; rintro e w2 ⟨rfl, h2⟩; have HT2 : Hid (TS w b (mayP (xs.take 1)) [] w2) := Lib.hid (by rw [mayP_zero HXX.out, Int.toNat_natCast, HD.out]; exact h2); clear h2; go_wp2
    go_roundw
    case rel => exact ⟨1, by omega, by go_num, HT2⟩
    case measure => simp [intOf]; omega
   ·have hk0' : (0 : Int) < (k : Int) := by omega
    have HS : Hid (mayP (xs.take (k + 1)) = mayP (xs.take k) ++ 44 :: decT x) := Lib.hid (by
     obtain ⟨j, rfl⟩ : ∃ j, k = j + 1 := ⟨k - 1, by omega⟩
     exact mayP_succ HXX.out)
    clear hk0
    go_wp2_with fail
    refine (HT.out.wb 44 (by have := HZ.out; omega)).mono ?_; rintro e w1 ⟨rfl, h1⟩; have HT1 := Lib.hid h1; clear h1
    go_wp2_with fail
    refine (itoa_small x hx100 _).mono ?_; rintro e w1' ⟨rfl, rfl⟩
    go_wp2_with fail
    refine (HT1.out.ws _ (num2 x) rfl (by have := HZ.out; have := HN2.out; simp only [List.length_append, List.length_cons, List.length_nil]; omega)).mono ?_; rintro e w2 ⟨rfl, h2⟩; have HT2 : Hid (TS w b (mayP (xs.take (k + 1))) [] w2) := Lib.hid (by rw [HS.out, HD.out]; simpa using h2); clear h2; go_wp2
    go_roundw
    case rel => exact ⟨k + 1, by omega, by go_num, HT2⟩
    case measure => simp [intOf]; omega
  ·have hke : k = n := by omega
   have HE : Hid (mayT xs = mayP (xs.take k)) := Lib.hid (by rw [HM.out, hke, ← HL.out, List.take_length]); clear hke
   go_wp2_with fail
   refine HT.out.done.mono ?_; rintro e w2 ⟨rfl, hb2⟩; have HB := Lib.hid hb2; clear hb2; go_wp2; go_ret; exact ⟨ret_ba (by rw [HE.out]), HB.out⟩
def closOk (ds : List DeedD) (S : Nat) : Prop := ∀ (k : Nat) (d : DeedD) (s q : Nat), ds[k]? = some d → s < 32 → deedDo d s = some q → bit S s = 1 → bit S q = 1
def closTo (ds : List DeedD) (S k m : Nat) : Prop := ∀ (j : Nat) (d : DeedD) (s q : Nat), ds[j]? = some d → s < 32 → (j < k ∨ j = k ∧ s < m) → deedDo d s = some q → bit S s = 1 → bit S q = 1
theorem clos_zero (ds : List DeedD) (S : Nat) : closTo ds S 0 0 := fun j d s q _ _ h _ => by omega
theorem clos_next {ds : List DeedD} {S k : Nat} (h : closTo ds S k 32) : closTo ds S (k + 1) 0 := fun j d s q hj hs hk e => h j d s q hj hs (by omega) e
theorem clos_good {ds : List DeedD} {S k m : Nat} {d : DeedD} (h : closTo ds S k m) (hd : ds[k]? = some d) (g : ∀ q, deedDo d m = some q → bit S m = 1 → bit S q = 1) : closTo ds S k (m + 1) := fun j d' s q hj hs hk e' => by
 by_cases h1 : j = k ∧ s = m
 ·obtain ⟨rfl, rfl⟩ := h1; rw [hd] at hj; cases hj; exact g q e'
 ·exact h j d' s q hj hs (by omega) e'
theorem clos_all {ds : List DeedD} {S : Nat} (h : closTo ds S ds.length 0) : closOk ds S := fun k d s q hk hs e => h k d s q hk hs (Or.inl (List.getElem?_eq_some_iff.1 hk).1) e
theorem clos_not {ds : List DeedD} {S k m q : Nat} {d : DeedD} (hm : m < 32) (hd : ds[k]? = some d) (e : deedDo d m = some q) (h1 : bit S m = 1) (h0 : bit S q = 0) : ¬ closOk ds S := fun h => by have := h k d m q hd hm e h1; omega
theorem and_none {S : Nat} (hS : S < 4294967296) (xs : List Int) : S &&& truthN xs = 0 ↔ ∀ s, s < 32 → setP S s = true → evalCode xs s = false := by
 have h1 : S &&& truthN xs = mset (fun s => setP S s && evalCode xs s) 32 := by
  conv => lhs; rw [← mset_bits S 32 hS]
  exact mset_and _ _ 32
 rw [h1, mset_zero]
 constructor
 ·intro h s hs h2
  have := h s hs
  rw [h2] at this
  simpa using this
 ·intro h s hs
  cases h2 : setP S s with
  | false => rfl
  | true => rw [h s hs h2]; rfl
theorem closed_iff {t : TaskD} {S : Nat} (h : taskOk t = true) (hS : S < 4294967296) : closedOk t (S : Int) = true ↔ bit S t.start.toNat = 1 ∧ S &&& truthN t.goal = 0 ∧ closOk t.deeds S := by
 rw [and_none hS]
 unfold closedOk
 rw [h, Int.toNat_natCast, decide_eq_true (show (0 : Int) ≤ (S : Int) ∧ (S : Int) < 4294967296 by omega)]; simp only [Bool.true_and, Bool.and_eq_true, List.all_eq_true, List.mem_range, Bool.or_eq_true, Bool.not_eq_true']
 constructor
 ·rintro ⟨h1, h2⟩; refine ⟨by simpa [setP] using h1, fun s hs e => ?_, fun k d s q hk hs e hb => ?_⟩
  ·rcases h2 s hs with h3 | h3
   ·rw [e] at h3; cases h3
   ·exact h3.1
  ·rcases h2 s hs with h3 | h3
   ·simp [setP, hb] at h3
   ·have := h3.2 d (List.mem_of_getElem? hk)
    rw [e] at this
    simpa [setP] using this
 ·rintro ⟨h1, h2, h3⟩; refine ⟨by simpa [setP] using h1, fun s hs => ?_⟩
  cases hb : setP S s with
  | false => left; rfl
  | true =>
   right
   refine ⟨h2 s hs hb, fun d hd => ?_⟩
   cases e : deedDo d s with
   | none => rfl
   | some q =>
    obtain ⟨k, hk, rfl⟩ := List.getElem_of_mem hd
    have := h3 k _ s q (List.getElem?_eq_getElem hk) hs e (by simpa [setP] using hb)
    simpa [setP] using this
theorem closed_range {t : TaskD} {z : Int} (h : ¬ (0 ≤ z ∧ z < 4294967296)) : closedOk t z = false := by
 unfold closedOk; rw [decide_eq_false h]; simp
theorem mset_sub_iff {p q : Nat → Bool} : mset p 32 &&& mset q 32 = mset p 32 ↔ ∀ s, s < 32 → p s = true → q s = true := by
 rw [mset_and]
 constructor
 ·intro h s hs hp
  have := mset_inj h s hs
  rw [hp] at this
  simpa using this
 ·intro h; refine mset_congr fun s hs => ?_
  cases hp : p s with
  | false => rfl
  | true => rw [h s hs hp]; rfl
theorem clos_next_iff {t : TaskD} {S : Nat} (h : taskOk t = true) (hS : S < 4294967296) : mset (fwdP t.deeds (setP S)) 32 &&& S = mset (fwdP t.deeds (setP S)) 32 ↔ closOk t.deeds S := by
 have e : S = mset (setP S) 32 := (mset_bits S 32 hS).symm
 conv => lhs; lhs; rhs; rw [e]
 rw [mset_sub_iff]; have hd := (taskOk_parts t h).2.2.2
 constructor
 ·intro g k d s q hk hs eq hb; have hdm := List.mem_of_getElem? hk
  have := g q (deedDo_lt d s q (hd d hdm) hs eq) (fwdP_iff.2 ⟨s, hs, by simpa [setP] using hb, d, hdm, eq⟩)
  simpa [setP] using this
 ·intro g q hq hf; obtain ⟨s, hs, hb, d, hdm, eq⟩ := fwdP_iff.1 hf; obtain ⟨k, hk, rfl⟩ := List.getElem_of_mem hdm
  have := g k _ s q (List.getElem?_eq_getElem hk) hs eq (by simpa [setP] using hb)
  simpa [setP] using this
end Go.Proofs.YtkmcengmglgdeaaGreatDoor
