/- Joined texts: Let, RightI. -/
import Derived.Test.YtkmcengmglgdeaaGreatDoorSLaid
import Derived.Test.YtkmcengmglgdeaaGreatDoorSActT
import Derived.Test.YtkmcengmglgdeaaGreatDoorSActR
import Derived.Test.YtkmcengmglgdeaaGreatDoorSMark
import Derived.Test.YtkmcengmglgdeaaGreatDoorSRun
import Derived.Lib.UnsafeStr
import Derived.Test.YtkmcengmglgdeaaGreatDoorSRightP
import Derived.Test.YtkmcengmglgdeaaGreatDoorSSplitW
import Derived.Test.YtkmcengmglgdeaaGreatDoorSClosI
import Derived.Test.YtkmcengmglgdeaaGreatDoorSSumW
import Derived.Test.YtkmcengmglgdeaaGreatDoorSActsH
import Derived.Test.YtkmcengmglgdeaaGreatDoorSDoI

namespace Go.Proofs.YtkmcengmglgdeaaGreatDoor
set_option linter.unusedVariables false
set_option linter.unusedSimpArgs false
open Go.ChangeShapes Go.WideShapes Go.ChangeAt Go.RowKit

theorem let_toNat {k : Nat} (h : k < 5) : ((UInt8.ofNat (97 + k)).toNat : Int) = 97 + (k : Int) := by
 rw [UInt8.toNat_ofNat']
 omega
theorem elByte : ElemT Tryz.prog 22 5 (.int .u8 0) 1 1 := ⟨Tryz.underlying22, info_parts (by kernel_rfl), rfl, by omega⟩
theorem conv_row {w : World} {base cap n : Nat} {A : Option Addr} {l : List UInt8} (h : w.ownsRow base 5 1 (.slice A n cap) n (Lib.byteCells l)) (hn : n = l.length) (h0 : l ≠ []) :
  (convert 22 9 (.slice A n cap)).run Tryz.prog w = .ok (.string ⟨l.toArray⟩) w := by
 subst hn; obtain ⟨g, c, hv, -⟩ := own_some h (List.length_pos_iff.2 h0); simp only [Value.slice.injEq] at hv; obtain ⟨rfl, -, rfl⟩ := hv; refine run_convert_bytes_back w 22 9 5 ⟨g, 0, none⟩ cap l Tryz.underlying22 Tryz.underlying5 Tryz.underlying9 fun j hj => ?_
 have h1 := h.cellAt j (by omega); have h2 : (Lib.byteCells l)[j]? = some (.int .u8 (l[j].toNat : Int)) := by simp [Lib.byteCells, hj]
 rw [h2] at h1
 have e : (⟨g, 0, none⟩ : Addr).add j = ⟨g, j, none⟩ := by
  cases j with
  | zero => rfl
  | succ j => simp [Addr.add]
 rw [e]; exact h1
set_option maxRecDepth 100000 in
set_option maxHeartbeats 1000000 in
theorem factLetters_any (n : Nat) (hn : n < 32) (w : World) :
  Calls Tryz.prog 113 #[.int .i64 (n : Int)] w fun e w' => e = .returned (.string ⟨(letT n).toArray⟩) ∧ Below w.heap.size w w' := by
 by_cases h0 : n = 0
 ·subst h0; go_enter Tryz.func113, Tryz.ntmps113; go_wp2; go_ret; exact ⟨rfl, Below.refl _ _⟩
 have HT : Hid (letT n = letP n 5) := Lib.hid (by unfold letT; rw [if_neg h0]); have HNE : Hid (letP n 5 ≠ []) := Lib.hid (letP_ne n hn h0); have h0' : ((n : Int) == 0) = false := beq_false_of_ne (by omega); clear h0; go_enter Tryz.func113, Tryz.ntmps113; go_wp2; clear h0'
 go_loopw [7, 3] (fun i v wr => ∃ (k m : Nat), k ≤ 5 ∧ i = .int .i64 k ∧ m ≤ k ∧ Hid (m = (letP n k).length) ∧ wr.ownsRow w.heap.size 5 1 v m (Lib.byteCells (letP n k)) ∧ Below w.heap.size w wr) (fun i _ _ => 5 - (intOf i).toNat)
 case atStart => exact ⟨0, 0, by omega, rfl, by omega, Lib.hid rfl, World.ownsRow_nil w _ _ 1, Below.refl _ _⟩
 case round =>
  obtain ⟨k, m, hk, rfl, hm, HM, hown, hbel⟩ := hrel; have hsz := hbel.size; obtain ⟨C, cc, rfl⟩ := own_form hown
  by_cases hlt : k < 5
  ·have hbit := and_one n k (by omega)
   by_cases hb1 : bit n k = 1
   ·rw [hb1] at hbit; have HN := Lib.hid (letP_yes hb1); have HL := Lib.hid (let_toNat hlt); clear hb1
    go_wp2_with (at_builtin; refine wp_app elByte rfl _ _ rfl w.heap.size _ m _ rfl (hown.alloc _) _ _ 1 1 [.int .u8 (97 + (k : Int))] rfl (RdRow.new wr [.int .u8 (97 + (k : Int))] 5 1 1 rfl (by unfold maxLen; omega)) (by simp [Value.oneCell']) (by omega) (by omega) (by simp; omega) ?_; intro v5 w5 hown5 hg5 hat5)
    have hb5 : Below w.heap.size w w5 := (hbel.alloc hsz _).grown hg5 (by simp; omega) (fun k hk => by have := (hown.lt k hk).1; omega); have ho5 : w5.ownsRow w.heap.size 5 1 v5 (m + 1) (Lib.byteCells (letP n (k + 1))) := by rw [HN.out, Lib.byteCells_append]; simp only [Lib.byteCells, List.map_cons, List.map_nil, HL.out] at hown5 ⊢; exact hown5
    clear hown5 hg5 hat5; go_wp2
    go_roundw
    case rel => exact ⟨k + 1, m + 1, by omega, by go_num, by omega, Lib.hid (by rw [HN.out, HM.out]; simp), ho5, hb5⟩
    case measure => simp [intOf]; omega
   ·have hb0 : bit n k = 0 := by have := bit_lt n k; omega
    rw [hb0] at hbit; have HN := Lib.hid (letP_no hb0); clear hb1 hb0; go_wp2
    go_roundw
    case rel => exact ⟨k + 1, m, by omega, by go_num, by omega, Lib.hid (by rw [HN.out]; exact HM.out), by rw [HN.out]; exact hown, hbel⟩
    case measure => simp [intOf]; omega
  ·obtain rfl : k = 5 := by omega
   have hcv := conv_row hown HM.out HNE.out; clear hown; go_wp2; go_ret; exact ⟨ret_ba (by rw [HT.out]), hbel⟩
set_option maxRecDepth 100000 in
theorem readLetters_any (s : ByteArray) (w : World) :
  Calls Tryz.prog 171 #[.string s] w fun e w' => e = .returned (.tuple #[.int .i64 ((setL s.data.toList).getD 0 : Nat), .bool (setL s.data.toList).isSome]) ∧ Below w.heap.size w w' := by
 obtain ⟨o, ho⟩ : ∃ x, setL s.data.toList = x := ⟨_, rfl⟩; rw [ho]; go_enter Tryz.func171, Tryz.ntmps171; go_wp2
 go_loopw [5] (fun i wr => ∃ k : Nat, k ≤ 32 ∧ i = .int .i64 k ∧ Hid (∀ j, j < k → letT j ≠ s.data.toList) ∧ Below w.heap.size w wr) (fun i _ => 32 - (intOf i).toNat)
 case atStart => exact ⟨0, by omega, rfl, Lib.hid (by omega), Below.refl _ _⟩
 case round =>
  obtain ⟨k, hk, rfl, HN, hbel⟩ := hrel; have HB := Lib.hid hbel; have HO := Bx.mk ho; clear hbel
  by_cases hlt : k < 32
  ·go_wp2_with fail
   refine (factLetters_any k hlt _).mono ?_; rintro e w1 ⟨rfl, hb⟩; have HB1 := Lib.hid (HB.out.trans (hb.mono HB.out.size)); clear hb; obtain ⟨q, hq⟩ : ∃ q : ByteArray, (⟨(letT k).toArray⟩ : ByteArray) = q := ⟨_, rfl⟩; have hql : q.toList = letT k := by rw [← hq, Lib.toList_data]
   rw [hq]
   by_cases he : letT k = s.data.toList
   ·have hne : (q.toList == s.toList) = true := by rw [hql, Lib.toList_data, he]; simp
    have HV : Hid (o = some k) := Lib.hid (by rw [← HO.out, ← he, letT_inj k hlt]); clear he hq hql; go_wp2; exact bodyPost_ret (v := .tuple #[.int .i64 (k : Int), .bool true]) (by simp [results, Tryz.results171, go_sem]) rfl ⟨by rw [HV.out]; rfl, HB1.out⟩
   ·have hne : (q.toList == s.toList) = false := by rw [hql, Lib.toList_data]; exact beq_false_of_ne he
    have HN2 : Hid (∀ j, j < k + 1 → letT j ≠ s.data.toList) := Lib.hid fun j hj => by
     rcases Nat.lt_or_ge j k with h | h
     ·exact HN.out j h
     ·obtain rfl : j = k := by omega
      exact he
    clear he hq hql; go_wp2
    go_roundw
    case rel => exact ⟨k + 1, by omega, by go_num, HN2, HB1.out⟩
    case measure => simp [intOf]; omega
  ·have HV : Hid (o = none) := Lib.hid (by
    rw [← HO.out]
    cases h : setL s.data.toList with
    | none => rfl
    | some j =>
     obtain ⟨h1, h2⟩ := setL_some h
     exact absurd h2 (HN.out j (by omega)))
   go_wp2; exact bodyPost_ret (v := .tuple #[.int .i64 0, .bool false]) (by simp [results, Tryz.results171, go_sem]) rfl ⟨by rw [HV.out]; rfl, HB.out⟩
set_option maxRecDepth 100000 in
set_option maxHeartbeats 1000000 in
theorem l6Letters_any (n : Nat) (hn : n < 32) (w : World) :
  Calls Tryz.prog 59 #[.int .i64 (n : Int)] w fun e w' => e = .returned (.string ⟨(letT n).toArray⟩) ∧ Below w.heap.size w w' := by
 have HT : Hid (n ≠ 0 → letT n = letP n 5) := Lib.hid (fun h0 => by unfold letT; rw [if_neg h0]); have HNE : Hid (n ≠ 0 → letP n 5 ≠ []) := Lib.hid (fun h0 => letP_ne n hn h0); go_enter Tryz.func59, Tryz.ntmps59; go_wp2
 go_loopw [4, 3] (fun i v wr => ∃ (k : Nat) (q : ByteArray), k ≤ 5 ∧ i = .int .i64 k ∧ v = .string q ∧ q.size ≤ k ∧ Hid (q = ⟨(letP n k).toArray⟩) ∧ Below w.heap.size w wr) (fun i _ _ => 5 - (intOf i).toNat)
 case atStart => exact ⟨0, ⟨#[]⟩, by omega, rfl, rfl, by decide, Lib.hid rfl, Below.refl _ _⟩
 case round =>
  obtain ⟨k, q, hk, rfl, rfl, hq, HQ, hbel⟩ := hrel; have HB := Lib.hid hbel; clear hbel
  by_cases hlt : k < 5
  ·by_cases hb1 : bit n k = 1
   ·have HN := Lib.hid (letP_yes hb1); have HL := Lib.hid (let_toNat hlt); have h1 : ¬ 9223372036854775807 < q.size + 1 := by omega
    go_wp2_with fail
    refine (l1Bit_nat n k (by omega) _).mono ?_; rw [hb1]; rintro e w1 ⟨rfl, rfl⟩
    have hcv : (convert 22 9 (.slice (some ⟨wr.heap.size, 0, none⟩) 1 1)).run Tryz.prog (wr.alloc (.cells #[.int .u8 (97 + (k : Int))] 5)) = .ok (.string ⟨[UInt8.ofNat (97 + k)].toArray⟩) (wr.alloc (.cells #[.int .u8 (97 + (k : Int))] 5)) :=
     conv_one _ _ _ (by rw [HL.out]; exact (Blk.new wr 5 #[.int .u8 (97 + (k : Int))]).cell 0)
    obtain ⟨u, hu⟩ : ∃ u, UInt8.ofNat (97 + k) = u := ⟨_, rfl⟩; rw [hu] at hcv; have HQ2 : Hid (q ++ ⟨[u].toArray⟩ = ⟨(letP n (k + 1)).toArray⟩) := Lib.hid (by rw [HQ.out, HN.out, ba_app, hu]); have HZ : Hid ((q ++ ⟨[u].toArray⟩).size ≤ k + 1) := Lib.hid (by rw [ByteArray.size_append]; have : (⟨[u].toArray⟩ : ByteArray).size = 1 := rfl; omega); clear hu; clear hb1; go_wp2
    go_roundw
    case rel => exact ⟨k + 1, _, by omega, by go_num, rfl, HZ.out, HQ2, HB.out.alloc HB.out.size _⟩
    case measure => simp [intOf]; omega
   ·have hb0 : bit n k = 0 := by have := bit_lt n k; omega
    have HN := Lib.hid (letP_no hb0)
    go_wp2_with fail
    refine (l1Bit_nat n k (by omega) _).mono ?_; rw [hb0]; rintro e w1 ⟨rfl, rfl⟩; clear hb1 hb0; go_wp2
    go_roundw
    case rel => exact ⟨k + 1, q, by omega, by go_num, rfl, by omega, Lib.hid (by rw [HN.out]; exact HQ.out), HB.out⟩
    case measure => simp [intOf]; omega
  ·obtain rfl : k = 5 := by omega
   by_cases h0 : n = 0
   ·subst h0; have hqe : q = ⟨#[]⟩ := HQ.out; subst hqe; go_wp2; go_ret; exact ⟨rfl, HB.out⟩
   ·have hb : q.toList.isEmpty = false := by
     rw [Lib.toList_data, HQ.out]
     have := HNE.out h0
     cases h : letP n 5 with
     | nil => exact absurd h this
     | cons x y => rfl
    have HV : Hid (q = ⟨(letT n).toArray⟩) := Lib.hid (by rw [HT.out h0]; exact HQ.out); clear h0; go_wp2; go_ret; exact ⟨ret_ba HV.out, HB.out⟩
def setZ (s : List UInt8) : Int := match setL s with | some n => (n : Int) | none => -1
set_option maxRecDepth 100000 in
theorem l6Set_any (s : ByteArray) (w : World) :
  Calls Tryz.prog 132 #[.string s] w fun e w' => e = .returned (.int .i64 (setZ s.data.toList)) ∧ Below w.heap.size w w' := by
 obtain ⟨o, ho⟩ : ∃ x, setZ s.data.toList = x := ⟨_, rfl⟩; rw [ho]; go_enter Tryz.func132, Tryz.ntmps132; go_wp2
 go_loopw [3] (fun i wr => ∃ k : Nat, k ≤ 32 ∧ i = .int .i64 k ∧ Hid (∀ j, j < k → letT j ≠ s.data.toList) ∧ Below w.heap.size w wr) (fun i _ => 32 - (intOf i).toNat)
 case atStart => exact ⟨0, by omega, rfl, Lib.hid (by omega), Below.refl _ _⟩
 case round =>
  obtain ⟨k, hk, rfl, HN, hbel⟩ := hrel; have HB := Lib.hid hbel; have HO := Bx.mk ho; clear hbel
  by_cases hlt : k < 32
  ·go_wp2_with fail
   refine (l6Letters_any k hlt _).mono ?_; rintro e w1 ⟨rfl, hb⟩; have HB1 := Lib.hid (HB.out.trans (hb.mono HB.out.size)); clear hb; obtain ⟨q, hq⟩ : ∃ q : ByteArray, (⟨(letT k).toArray⟩ : ByteArray) = q := ⟨_, rfl⟩; have hql : q.toList = letT k := by rw [← hq, Lib.toList_data]
   rw [hq]
   by_cases he : letT k = s.data.toList
   ·have hne : (q.toList == s.toList) = true := by rw [hql, Lib.toList_data, he]; simp
    have HV : Hid (o = (k : Int)) := Lib.hid (by rw [← HO.out, ← he]; unfold setZ; rw [letT_inj k hlt]); clear he hq hql; go_wp2; go_ret; exact ⟨ret_int HV.out.symm, HB1.out⟩
   ·have hne : (q.toList == s.toList) = false := by rw [hql, Lib.toList_data]; exact beq_false_of_ne he
    have HN2 : Hid (∀ j, j < k + 1 → letT j ≠ s.data.toList) := Lib.hid fun j hj => by
     rcases Nat.lt_or_ge j k with h | h
     ·exact HN.out j h
     ·obtain rfl : j = k := by omega
      exact he
    clear he hq hql; go_wp2
    go_roundw
    case rel => exact ⟨k + 1, by omega, by go_num, HN2, HB1.out⟩
    case measure => simp [intOf]; omega
  ·have HV : Hid (o = -1) := Lib.hid (by
    rw [← HO.out]
    unfold setZ
    cases h : setL s.data.toList with
    | none => rfl
    | some j =>
     obtain ⟨h1, h2⟩ := setL_some h
     exact absurd h2 (HN.out j (by omega)))
   go_wp2; go_ret; exact ⟨ret_int HV.out.symm, HB.out⟩
end Go.Proofs.YtkmcengmglgdeaaGreatDoor


namespace Go.Proofs.YtkmcengmglgdeaaGreatDoor
set_option linter.unusedVariables false
set_option linter.unusedSimpArgs false
open Go.ChangeShapes Go.WideShapes Go.ChangeAt Go.RowKit

theorem readPlan_no (s : ByteArray) (w : World) :
  Calls Tryz.prog 168 #[.string s, .bool false] w (GivesD (some []) w) := by
 go_enter Tryz.func168, Tryz.ntmps168; go_wp2; exact bodyPost_ret (v := .tuple #[.slice none 0 0, .bool true]) (by simp [results, Tryz.results168, go_sem]) rfl (GivesD.yes rfl (rInts_nil _ _ (Below.refl _ _)))
set_option maxRecDepth 100000 in
set_option maxHeartbeats 2000000 in
theorem readPlan_yes (s : ByteArray) (w : World) (hs : s.size < 4294967281) :
  Calls Tryz.prog 168 #[.string s, .bool true] w (GivesD (planL (cutW 32 [] s.data.toList)) w) := by
 have hsp := split_sp s w hs; have hcs := cutW_sum 32 s.data.toList []; have hsl : s.data.toList.length = s.size := (Lib.size_eq s).symm; obtain ⟨ws, hws⟩ : ∃ ws, cutW 32 [] s.data.toList = ws := ⟨_, rfl⟩; rw [hws] at hsp hcs ⊢
 have hpc : ∀ l ∈ ws, l.length ≤ 4294967281 := fun l hl => by have := hcs l hl; simp only [List.length_nil] at this; omega
 obtain ⟨cs, hcd⟩ : ∃ cs, (ws.map fun l => Value.string ⟨l.toArray⟩).toArray = cs := ⟨_, rfl⟩; obtain ⟨n, hn⟩ : ∃ n, ws.length = n := ⟨_, rfl⟩; rw [hcd, hn] at hsp
 have hn2 : n ≤ 4294967290 := by
  have := cutW_len 32 s.data.toList []
  rw [hws, hn, hsl] at this
  omega
 have HAT : ∀ (k : Nat) (l : List UInt8), ws[k]? = some l → cs[k]? = some (Value.string ⟨l.toArray⟩) := fun k l h => by rw [← hcd]; simp [h]
 have HSP := Lib.hid hsp; have HPC := Lib.hid hpc; have HCS := Lib.hid HAT; have HN := Lib.hid hn; clear hsp hpc HAT hws hcs hsl hs hcd hn; go_enter Tryz.func168, Tryz.ntmps168
 go_wp2_with fail
 refine HSP.out.mono ?_; rintro e w1 ⟨rfl, rfl⟩; have HS1 := Lib.hid ((St.refl w).alloc cs 9)
 by_cases h40 : (40 : Int) < (n : Int)
 ·have HP : Bx (planL ws = none) := Bx.mk (by unfold planL; rw [if_neg (by rw [HN.out]; omega)]); go_wp2; exact bodyPost_ret (v := .tuple #[.slice none 0 0, .bool false]) (by simp [results, Tryz.results168, go_sem]) rfl (GivesD.no HP.out HS1.out.below)
 ·have hn40 : n ≤ 40 := by omega
  have HP : Bx (planL ws = readAll ws) := Bx.mk (by unfold planL; rw [if_pos (by rw [HN.out]; omega)]); have HS2 : Hid (St w (w.alloc (.cells cs 9)) [rBlk w.heap.size 9 cs, rInts (.slice none 0 0) []]) := Lib.hid (HS1.out.call (rInts_nil _ _ (Below.refl _ _))); go_wp2
  go_loopw [21, 7] (fun i v wr => ∃ (k : Nat) (x : Value) (ys : List Int), k ≤ n ∧ i = .int .i64 k ∧ x = v ∧ ys.length = k ∧ Bx (readAll (ws.take k) = some ys) ∧ St w wr [rBlk w.heap.size 9 cs, rInts x ys]) (fun i _ _ => n - (intOf i).toNat)
  case atStart => exact ⟨0, _, [], by omega, rfl, rfl, rfl, Bx.mk rfl, HS2.out⟩
  case round =>
   clear HS2 HS1; obtain ⟨k, x, ys, hk, rfl, rfl, hyl, HM, S⟩ := hrel; have HS := Lib.hid S; clear S
   by_cases hlt : k < n
   ·obtain ⟨l, hl⟩ : ∃ l, ws[k]? = some l := ⟨ws[k]'(by rw [HN.out]; exact hlt), List.getElem?_eq_getElem _⟩; have r0 : wr.cell? ⟨w.heap.size, k, none⟩ = some (.string ⟨l.toArray⟩) := (HS.out.cells 0 rfl k).trans (HCS.out k l hl)
    have hll : (⟨l.toArray⟩ : ByteArray).size ≤ 9223372036854775807 := by
     have := HPC.out l (List.mem_of_getElem? hl)
     show l.toArray.size ≤ _
     rw [List.size_toArray]; omega
    have HLK := Lib.hid hl; have hra := readAll_take hl; rw [HM.out] at hra; have hrd := readNumber_any ⟨l.toArray⟩ 2 wr (by decide) hll; rw [show (⟨l.toArray⟩ : ByteArray).data.toList = l from rfl] at hrd; obtain ⟨o, ho⟩ : ∃ o, rdNum 2 l = o := ⟨_, rfl⟩; rw [ho] at hra hrd; have HRD := Lib.hid hrd; have HO := Bx.mk ho; have HRA := Bx.mk hra; clear hrd hra ho hl hll
    go_wp2_with fail
    refine HRD.out.mono ?_; rintro e w3 ⟨he, rfl⟩
    unfold NumR at he
    subst he
    cases o with
    | none =>
     have HNO : Bx (planL ws = none) := Bx.mk (by rw [HP.out]; exact readAll_pre (k := k + 1) (by rw [HRA.out]; rfl)); simp only [Option.getD_none, Option.isSome_none]; go_wp2; exact bodyPost_ret (v := .tuple #[.slice none 0 0, .bool false]) (by simp [results, Tryz.results168, go_sem]) rfl (GivesD.no HNO.out HS.out.below)
    | some z =>
     have hz : 0 ≤ z ∧ z < 100 := by
      rcases digs_two l with ⟨v, h1, h2, h3, h4⟩ | ⟨h1, h2⟩
      ·rw [HO.out] at h1; injection h1 with h1; subst h1; exact ⟨h3, h4⟩
      ·rw [HO.out] at h1; cases h1
     have HM2 : Bx (readAll (ws.take (k + 1)) = some (ys ++ [z])) := Bx.mk (by rw [HRA.out]; rfl); simp only [Option.getD_some, Option.isSome_some]; have HROW := Lib.hid (HS.out.ownI 1 rfl)
     have HAP : Hid (∀ v3 w3', w3'.ownsRow 0 3 1 v3 (ys.length + 1) (ints ys ++ [Value.int .i64 z]) → (wr.alloc (.cells #[.int .i64 z] 3)).grownBy w3' x.ownBlock → (v3.ownBlock = x.ownBlock ∨ v3.ownBlock = some (wr.alloc (.cells #[.int .i64 z] 3)).heap.size) →
       St w w3' [rBlk w.heap.size 9 cs, rInts v3 (ys ++ [z])]) :=
      Lib.hid fun v3 w3' h1 h2 h3 => St.appI (v := x) (xs := ys) (ys := [z]) ((HS.out.alloc #[.int .i64 z] 3).pick [0, 1] (by decide) rfl rfl) 1 rfl rfl h1 (by intro y hy; simp at hy; subst hy; exact wf_i64_mk (by omega)) h2 h3
     go_wp2_with (at_builtin; refine wp_app elInt rfl _ _ rfl 0 x ys.length (ints ys) rfl (HROW.out.alloc _) _ _ 1 1 [.int .i64 z] rfl (RdRow.new wr [.int .i64 z] 3 1 1 rfl (by unfold maxLen; omega)) (by simp [Value.oneCell']) (by omega) (by omega) (Nat.zero_le _) ?_; intro v4 w4 hown4 hg4 hat4; have HS6 := Lib.hid (HAP.out v4 w4 hown4 hg4 hat4))
     go_wp2
     go_roundw
     case rel => exact ⟨k + 1, _, ys ++ [z], by omega, by go_num, rfl, by simp; omega, HM2, HS6.out⟩
     case measure => simp [intOf]; omega
   ·obtain rfl : k = n := by omega
    have HY : Bx (planL ws = some ys) := Bx.mk (by rw [HP.out, ← HM.out, List.take_of_length_le (by rw [HN.out]; omega)]); go_wp2; exact bodyPost_ret (v := .tuple #[_, .bool true]) (by simp [results, Tryz.results168, go_sem]) rfl (GivesD.yes HY.out (HS.out.pick [1] (by decide) rfl rfl))
theorem sum_len (c : UInt8) (a b : List UInt8) (s : ByteArray) (h : s.data.toList = a ++ c :: b) : b.length + 1 ≤ s.size := by
 rw [Lib.size_eq s, h]; simp
def planV (t : TaskD) : Option (List Int) → Int
 | some p => if planOk t p then 1 else -1
 | none => -1
def CutsTo (s k r : ByteArray) (m : Bool) : Prop := ∀ w, Calls Tryz.prog 93 #[.string s, .string ⟨#[32]⟩] w fun e w' => e = .returned (.tuple #[.string k, .string r, .bool m]) ∧ ∃ n, w' = w.drewN n
set_option maxRecDepth 100000 in
set_option maxHeartbeats 2000000 in
theorem rightI_plan (v : Value) (t : TaskD) (s r : ByteArray) (m : Bool) (o : Option (List Int)) (w : World) (h : RdT w w.heap.size v t) (hok : taskOk t = true)
  (hc : CutsTo s ⟨#[112, 108, 97, 110]⟩ r m) (hp : ∀ w, Calls Tryz.prog 168 #[.string r, .bool m] w (GivesD o w))
  (hv : proofRight t s.data.toList = planV t o) :
  Calls Tryz.prog 118 #[v, .string s] w fun e w' => e = .returned (.int .i64 (proofRight t s.data.toList)) ∧ Below w.heap.size w w' := by
 rw [hv]; have h' := h; obtain ⟨G, gn, gc, G', n', c', rfl, hg, hgs, hds, hst⟩ := h; have HS0 := Lib.hid ((St.refl w).alloc #[.int .i64 t.start, .slice G gn gc, .slice G' n' c'] 26); have HT := Lib.hid h'; have HOK := Lib.hid hok; have HC := Lib.hid hc; have HP := Lib.hid hp; clear h' hok hds hg hgs hst hc hp hv; go_enter Tryz.func118, Tryz.ntmps118
 go_wp2_with fail
 refine (HC.out _).mono ?_; rintro e w1 ⟨rfl, q, rfl⟩; have HS1 := Lib.hid (HS0.out.quiet (below_drewN (Below.refl _ _) q)); clear HS0
 go_wp2_with fail
 refine (HP.out _).mono ?_; rintro e w2 ⟨v2, ds, rfl, hds, s2⟩; have HS2 := Lib.hid (HS1.out.call s2); clear s2 HS1; have q2 := HS2.out.cells 0 rfl
 cases o with
 | none =>
  simp only [Option.isSome_none, planV]; go_wp2; go_ret; exact ⟨rfl, HS2.out.below⟩
 | some p =>
  obtain rfl := hds p rfl; obtain ⟨A, c, rfl, hri⟩ := HS2.out.rdI 1 rfl; have HRI := Lib.hid hri; obtain ⟨b, hb⟩ : ∃ b, planOk t ds = b := ⟨_, rfl⟩; have HB := Bx.mk hb; clear hri hds; simp only [Option.isSome_some]; clear hb
  go_wp2_with fail
  refine (planOk_impl _ t A _ c ds _ (HT.out.up HS2.out.below) HRI.out HOK.out).mono ?_; rw [HB.out]; rintro e w3 ⟨rfl, hb3⟩; have HB3 := Lib.hid (HS2.out.quiet hb3).below; clear hb3
  cases b with
  | false =>
   go_wp2; go_ret; exact ⟨ret_int (by simp [planV, HB.out]), HB3.out⟩
  | true =>
   go_wp2; go_ret; exact ⟨ret_int (by simp [planV, HB.out]), HB3.out⟩
def closedV (t : TaskD) : Option Int → Int
 | some z => if closedOk t z then 0 else -1
 | none => -1
def sumV (t : TaskD) : Option Nat → Int
 | some f => if sumOk t f then 0 else -1
 | none => -1
set_option maxRecDepth 100000 in
set_option maxHeartbeats 2000000 in
theorem rightI_closed (v : Value) (t : TaskD) (s : ByteArray) (b : List UInt8) (w : World) (h : RdT w w.heap.size v t) (hok : taskOk t = true) (he : ErrH w)
  (hs : s.size ≤ 9223372036854775807) (hd : s.data.toList = closedW ++ 32 :: b) :
  Calls Tryz.prog 118 #[v, .string s] w fun e w' => e = .returned (.int .i64 (proofRight t s.data.toList)) ∧ Below w.heap.size w w' := by
 have hc : CutsTo s ⟨closedW.toArray⟩ ⟨b.toArray⟩ true := fun w => cut_at s 32 closedW b w (by decide) hd hs
 have hbs := sum_len 32 closedW b s hd; have hrd := fun w => readNumber_any ⟨b.toArray⟩ 10 w (by decide) (by show b.toArray.size ≤ _; rw [List.size_toArray]; omega)
 rw [show proofRight t s.data.toList = closedV t (rdNum 10 b) from right_closed hd]; rw [show (⟨b.toArray⟩ : ByteArray).data.toList = b from rfl] at hrd; obtain ⟨o, ho⟩ : ∃ o, rdNum 10 b = o := ⟨_, rfl⟩; rw [ho] at hrd ⊢
 have h' := h; obtain ⟨G, gn, gc, G', n', c', rfl, hg, hgs, hds, hst⟩ := h; have HS0 := Lib.hid ((St.refl w).alloc #[.int .i64 t.start, .slice G gn gc, .slice G' n' c'] 26); have HT := Lib.hid h'; have HOK := Lib.hid hok; have HC := Lib.hid hc; have HRD := Lib.hid hrd; have HE := Lib.hid he; clear h' hok hds hg hgs hst hc hrd ho hbs hd hs he; go_enter Tryz.func118, Tryz.ntmps118
 go_wp2_with fail
 refine (HC.out _).mono ?_; rintro e w1 ⟨rfl, q, rfl⟩; have HS1 := Lib.hid (HS0.out.quiet (below_drewN (Below.refl _ _) q)); clear HS0
 go_wp2_with fail
 refine (HRD.out _).mono ?_; rintro e w2 ⟨he2, rfl⟩
 unfold NumR at he2
 subst he2; have q2 := HS1.out.cells 0 rfl
 cases o with
 | none =>
  simp only [Option.isSome_none, Option.getD_none]; go_wp2; go_ret; exact ⟨rfl, HS1.out.below⟩
 | some z =>
  simp only [Option.isSome_some, Option.getD_some]; have hcl := fun w' (h : Below w.heap.size w w') => closedOk_impl _ t z w' (HT.out.up h) (HE.out.up h) HOK.out
  obtain ⟨b2, hb2⟩ : ∃ b2, closedOk t z = b2 := ⟨_, rfl⟩; rw [hb2] at hcl; have HCL := Lib.hid hcl; have HV := Bx.mk hb2; clear hcl hb2
  go_wp2_with fail
  refine (HCL.out _ HS1.out.below).mono ?_; rintro e w3 ⟨rfl, hb3⟩; have HB3 := Lib.hid (HS1.out.quiet hb3).below; clear hb3
  cases b2 with
  | false =>
   go_wp2; go_ret; exact ⟨ret_int (by simp [closedV, HV.out]), HB3.out⟩
  | true =>
   go_wp2; go_ret; exact ⟨ret_int (by simp [closedV, HV.out]), HB3.out⟩
set_option maxRecDepth 100000 in
set_option maxHeartbeats 2000000 in
theorem rightI_sum (v : Value) (t : TaskD) (s : ByteArray) (b : List UInt8) (w : World) (h : RdT w w.heap.size v t) (hok : taskOk t = true)
  (hs : s.size ≤ 9223372036854775807) (hd : s.data.toList = sumW ++ 32 :: b) :
  Calls Tryz.prog 118 #[v, .string s] w fun e w' => e = .returned (.int .i64 (proofRight t s.data.toList)) ∧ Below w.heap.size w w' := by
 have hc : CutsTo s ⟨sumW.toArray⟩ ⟨b.toArray⟩ true := fun w => cut_at s 32 sumW b w (by decide) hd hs
 have hrd := fun w => readLetters_any ⟨b.toArray⟩ w
 rw [show proofRight t s.data.toList = sumV t (setL b) from right_sum hd]; rw [show (⟨b.toArray⟩ : ByteArray).data.toList = b from rfl] at hrd; obtain ⟨o, ho⟩ : ∃ o, setL b = o := ⟨_, rfl⟩; rw [ho] at hrd ⊢
 have h' := h; obtain ⟨G, gn, gc, G', n', c', rfl, hg, hgs, hds, hst⟩ := h; have HS0 := Lib.hid ((St.refl w).alloc #[.int .i64 t.start, .slice G gn gc, .slice G' n' c'] 26); have HT := Lib.hid h'; have HOK := Lib.hid hok; have HC := Lib.hid hc; have HO := Bx.mk ho; have HRD := Lib.hid hrd; clear h' hok hds hg hgs hst hc hrd ho hd hs; go_enter Tryz.func118, Tryz.ntmps118
 go_wp2_with fail
 refine (HC.out _).mono ?_; rintro e w1 ⟨rfl, q, rfl⟩; have HS1 := Lib.hid (HS0.out.quiet (below_drewN (Below.refl _ _) q)); clear HS0
 go_wp2_with fail
 refine (HRD.out _).mono ?_; rintro e w2 ⟨rfl, hb2⟩; have HS2 := Lib.hid (HS1.out.quiet hb2); clear hb2 HS1; have q2 := HS2.out.cells 0 rfl
 cases o with
 | none =>
  simp only [Option.isSome_none, Option.getD_none]; go_wp2; go_ret; exact ⟨rfl, HS2.out.below⟩
 | some f =>
  simp only [Option.isSome_some, Option.getD_some]; have hf := (setL_some HO.out).1; have hcl := fun w' (h : Below w.heap.size w w') => sumOk_impl _ t f hf w' (HT.out.up h) HOK.out
  obtain ⟨b2, hb2⟩ : ∃ b2, sumOk t f = b2 := ⟨_, rfl⟩; rw [hb2] at hcl; have HCL := Lib.hid hcl; have HV := Bx.mk hb2; clear hcl hb2 hf
  go_wp2_with fail
  refine (HCL.out _ HS2.out.below).mono ?_; rintro e w3 ⟨rfl, hb3⟩; have HB3 := Lib.hid (HS2.out.quiet hb3).below; clear hb3
  cases b2 with
  | false =>
   go_wp2; go_ret; exact ⟨ret_int (by simp [sumV, HV.out]), HB3.out⟩
  | true =>
   go_wp2; go_ret; exact ⟨ret_int (by simp [sumV, HV.out]), HB3.out⟩
set_option maxRecDepth 100000 in
set_option maxHeartbeats 2000000 in
theorem rightI_other (v : Value) (t : TaskD) (s k r : ByteArray) (m : Bool) (w : World) (h : RdT w w.heap.size v t)
  (hc : CutsTo s k r m) (h1 : k.data.toList ≠ planW) (h2 : k.data.toList ≠ closedW ∨ m = false) (h3 : k.data.toList ≠ sumW ∨ m = false) (hv : proofRight t s.data.toList = -1) :
  Calls Tryz.prog 118 #[v, .string s] w fun e w' => e = .returned (.int .i64 (proofRight t s.data.toList)) ∧ Below w.heap.size w w' := by
 rw [hv]; obtain ⟨G, gn, gc, G', n', c', rfl, hg, hgs, hds, hst⟩ := h; have HS0 := Lib.hid ((St.refl w).alloc #[.int .i64 t.start, .slice G gn gc, .slice G' n' c'] 26); have HC := Lib.hid hc
 have b1 : (k.toList == [112, 108, 97, 110]) = false := by
  rw [Bool.eq_false_iff, Lib.toList_data]; intro h; exact h1 (beq_iff_eq.1 h)
 obtain ⟨d2, b2⟩ : ∃ d, (k.toList == [99, 108, 111, 115, 101, 100]) = d := ⟨_, rfl⟩; obtain ⟨d3, b3⟩ : ∃ d, (k.toList == [115, 117, 109]) = d := ⟨_, rfl⟩; have e2 : d2 = false ∨ m = false := h2.imp (fun hh => by rw [← b2, Bool.eq_false_iff, Lib.toList_data]; intro h; exact hh (beq_iff_eq.1 h)) id; have e3 : d3 = false ∨ m = false := h3.imp (fun hh => by rw [← b3, Bool.eq_false_iff, Lib.toList_data]; intro h; exact hh (beq_iff_eq.1 h)) id; have HE2 := Lib.hid e2; have HE3 := Lib.hid e3; clear hds hg hgs hst hc h1 h2 h3 hv e2 e3; go_enter Tryz.func118, Tryz.ntmps118
 go_wp2_with fail
 refine (HC.out _).mono ?_; rintro e w1 ⟨rfl, q, rfl⟩; have HS1 := Lib.hid (HS0.out.quiet (below_drewN (Below.refl _ _) q)); clear HS0
 cases m with
 | false =>
  cases d2 <;> cases d3
  all_goals
   go_wp2; go_ret; exact ⟨rfl, HS1.out.below⟩
 | true =>
  obtain rfl : d2 = false := HE2.out.resolve_right (by simp); obtain rfl : d3 = false := HE3.out.resolve_right (by simp); go_wp2; go_ret; exact ⟨rfl, HS1.out.below⟩
theorem proofRight_impl (v : Value) (t : TaskD) (s : ByteArray) (w : World) (h : RdT w w.heap.size v t) (hok : taskOk t = true) (he : ErrH w) (hs : s.size < 4294967281) :
  Calls Tryz.prog 118 #[v, .string s] w fun e w' => e = .returned (.int .i64 (proofRight t s.data.toList)) ∧ Below w.heap.size w w' := by
 have h6 : t.deeds.length ≤ 6 := (taskOk_parts t hok).2.2.1; have hm : s.size ≤ 9223372036854775807 := by omega
 by_cases hb : (32 : UInt8) ∈ s.data.toList
 ·obtain ⟨a, b, hab, ha⟩ := first_of hb; have hcut : cutW 32 [] s.data.toList = a :: cutW 32 [] b := by rw [hab, cutW_sep ha, List.nil_append]
  have hc : CutsTo s ⟨a.toArray⟩ ⟨b.toArray⟩ true := fun w => cut_at s 32 a b w ha hab hm
  have hbs := sum_len 32 a b s hab
  by_cases h1 : a = planW
  ·subst h1; exact rightI_plan v t s _ true _ w h hok hc (fun w => readPlan_yes _ w (by show b.toArray.size < _; rw [List.size_toArray]; omega)) (right_plan h6 hcut)
  by_cases h2 : a = closedW
  ·subst h2; exact rightI_closed v t s b w h hok he hm hab
  by_cases h3 : a = sumW
  ·subst h3; exact rightI_sum v t s b w h hok hm hab
  exact rightI_other v t s _ _ true w h hc h1 (.inl h2) (.inl h3) (right_other hcut h1 (.inl h2) (.inl h3))
 ·have hcut : cutW 32 [] s.data.toList = [s.data.toList] := by rw [cutW_plain hb, List.nil_append]
  have hc : CutsTo s s .empty false := fun w => cut_none s 32 w hb
  by_cases h1 : s.data.toList = planW
  ·have hs' := ba_eq h1; have hv := right_plan (t := t) h6 (hcut.trans (by rw [h1])); exact rightI_plan v t s .empty false (some []) w h hok (by have hc' := hc; unfold CutsTo at hc' ⊢; intro w; have := hc' w; rw [hs'] at this ⊢; exact this) (fun w => readPlan_no _ w) hv
  ·exact rightI_other v t s s .empty false w h hc h1 (.inr rfl) (.inr rfl) (right_other hcut h1 (.inr rfl) (.inr rfl))
end Go.Proofs.YtkmcengmglgdeaaGreatDoor
