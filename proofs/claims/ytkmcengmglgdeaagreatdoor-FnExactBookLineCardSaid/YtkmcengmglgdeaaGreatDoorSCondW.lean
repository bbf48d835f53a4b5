/- Joined texts: CondW, Let. -/
import Derived.Test.YtkmcengmglgdeaaGreatDoorSCondT
import Derived.Test.YtkmcengmglgdeaaGreatDoorSRun
import Derived.Test.YtkmcengmglgdeaaGreatDoorSNum
import Derived.Test.YtkmcengmglgdeaaGreatDoorSLaid
import Derived.Test.YtkmcengmglgdeaaGreatDoorSActT
import Derived.Test.YtkmcengmglgdeaaGreatDoorSActR
import Derived.Test.YtkmcengmglgdeaaGreatDoorSMark
import Derived.Lib.UnsafeStr

namespace Go.Proofs.YtkmcengmglgdeaaGreatDoor
set_option linter.unusedVariables false
set_option linter.unusedSimpArgs false
set_option maxRecDepth 100000
set_option maxHeartbeats 8000000
open Go.ChangeShapes Go.WideShapes Go.ChangeAt Go.RowKit
theorem elCond : ElemT Tryz.prog 209 185 .nilIface 1 16 := ⟨Tryz.underlying209, info_parts (by kernel_rfl), rfl, by omega⟩
def conds (st : List Cond) : List Value := st.reverse.map Cond.val
theorem conds_cons (a : Cond) (r : List Cond) : conds (a :: r) = conds r ++ [a.val] := by simp [conds]
theorem conds_len (st : List Cond) : (conds st).length = st.length := by simp [conds]
theorem conds_top (a : Cond) (r : List Cond) : (conds (a :: r))[r.length]? = some a.val := by
 rw [conds_cons, List.getElem?_append_right (by rw [conds_len]; omega), conds_len]; simp
theorem conds_set (a v : Cond) (r : List Cond) : (conds (a :: r)).set r.length v.val = conds (v :: r) := by
 rw [conds_cons, conds_cons, List.set_append_right _ _ (by rw [conds_len]; omega), conds_len]; simp
theorem conds_put (a b2 v : Cond) (r : List Cond) : ((conds (a :: b2 :: r)).set r.length v.val).take ((r.length + 1) * 1) = conds (v :: r) := by
 rw [conds_cons a, List.set_append_left _ _ (by rw [conds_len]; simp), conds_set, Nat.mul_one, List.take_append_of_le_length (by rw [conds_len]; simp), List.take_of_length_le (by rw [conds_len]; simp)]
theorem condStep_len {st : List Cond} {x : Int} {d' : Nat} (h : dStep st.length x = some d') : (condStep st x).length = d' := by
 unfold dStep at h
 unfold condStep
 by_cases h1 : x < 0 ∨ 9 < x
 ·rw [if_pos h1] at h; cases h
 rw [if_neg h1] at h
 by_cases h2 : x ≤ 6
 ·rw [if_pos h2] at h ⊢; injection h
 rw [if_neg h2] at h ⊢
 by_cases h3 : x = 7
 ·rw [if_pos h3] at h ⊢
  match st, h with
  | p :: r, h => simpa using h
  | [], h => simp at h
 rw [if_neg h3] at h ⊢
 match st, h with
 | b :: a :: r, h => simpa using h
 | [_], h => simp at h
 | [], h => simp at h
theorem conditionOf_any (A : Option Addr) (n c : Nat) (xs : List Int) (w : World) (h : RdI .i64 w w.heap.size A n c xs) (hok : codeOk xs = true) :
  Calls Tryz.prog 192 #[.slice A n c] w fun e w' => e = .returned (condOf xs).val ∧ Below w.heap.size w w' := by
 have hl := h.len; obtain ⟨hn1, hn2, hfin⟩ := (codeOk_iff xs).1 hok; rw [hl] at hn1 hn2; have HL := Lib.hid hl; have HAT := Lib.hid (codeOk_at xs hok); have HFIN := Lib.hid hfin; clear hl hfin hok; go_enter Tryz.func192, Tryz.ntmps192; go_wp2
 go_loopw [9, 3] (fun i v wr => ∃ (k d : Nat) (st : List Cond), k ≤ n ∧ d ≤ k ∧ i = .int .i64 k ∧ Hid (st.length = d ∧ condRun [] (xs.take k) = st ∧ dRun 0 (xs.take k) = some d) ∧ wr.ownsRow w.heap.size 185 1 v d (conds st) ∧ Below w.heap.size w wr) (fun i _ _ => n - (intOf i).toNat)
 case atStart => exact ⟨0, 0, [], by omega, by omega, rfl, Lib.hid ⟨rfl, rfl, rfl⟩, World.ownsRow_nil w _ _ 1, Below.refl _ _⟩
 case round =>
  obtain ⟨k, d, st, hk, hd, rfl, HST, hown, hbel⟩ := hrel; have hsz := hbel.size; obtain ⟨C, cc, rfl⟩ := own_form hown
  by_cases hlt : k < n
  ·obtain ⟨b, off, x, rfl, hb, hx, hw, hc⟩ := h.get hlt; have hcr : wr.cell? ⟨b, off + k, none⟩ = some (.int .i64 x) := (bcells hbel b _ hb).trans hc; obtain ⟨d0, hd0, -, hstep⟩ := HAT.out k (by rw [HL.out]; exact hk); obtain ⟨d', hd'⟩ := hstep x hx
   have hdd : d0 = d := by
    have := hd0.symm.trans HST.out.2.2
    injection this
   rw [hdd] at hd'; have HNX : Hid ((condStep st x).length = d' ∧ condRun [] (xs.take (k + 1)) = condStep st x ∧ dRun 0 (xs.take (k + 1)) = some d') := Lib.hid ⟨condStep_len (by rw [HST.out.1]; exact hd'), by rw [condRun_take xs k x hx, HST.out.2.1], by have h1 := (dRun_step xs k x hx d HST.out.2.2).1; rw [h1]; exact hd'⟩; have HD' := Lib.hid hd'; have hlen := HST.out.1; clear hx hd0 hstep hd' hdd hc HST
   by_cases hlow : x ≤ 6
   ·have hx0 : 0 ≤ x := by
     rcases Int.lt_or_le x 0 with h | h
     ·have := HD'.out; rw [dStep_out d x (.inl h)] at this; cases this
     ·exact h
    have HD2 : Hid (d' = d + 1) := Lib.hid (by have := HD'.out; rw [dStep_push d x hx0 hlow] at this; injection this with this; exact this.symm); have HES : Hid (condStep st x = .one x :: st) := Lib.hid (by unfold condStep; rw [if_pos hlow]); have e7 : (x == 7) = false := beq_false_of_ne (by omega); have e8 : (x == 8) = false := beq_false_of_ne (by omega); have e9 : (x == 9) = false := beq_false_of_ne (by omega); clear hlen hlow hx0
    go_wp2_with (at_builtin; refine wp_app elCond rfl _ _ rfl w.heap.size _ d _ rfl (hown.alloc _) _ _ 1 1 [.iface 202 (.agg #[.int .i64 x])] rfl (RdRow.new wr [.iface 202 (.agg #[.int .i64 x])] 185 1 1 rfl (by unfold maxLen; omega)) (by simp [Value.oneCell']) (by omega) (by omega) (by simp; omega) ?_; intro v5 w5 hown5 hg5 hat5)
    have hb5 : Below w.heap.size w w5 := (hbel.alloc hsz _).grown hg5 (by simp; omega) (fun k hk => by have := (hown.lt k hk).1; omega); have ho5 : w5.ownsRow w.heap.size 185 1 v5 (d + 1) (conds (condStep st x)) := by rw [HES.out, conds_cons]; exact hown5
    clear hown5 hg5 hat5; go_wp2
    go_roundw
    case rel => exact ⟨k + 1, d + 1, _, by omega, by omega, by go_num, Lib.hid (by rw [← HD2.out]; exact HNX.out), ho5, hb5⟩
    case measure => simp [intOf]; omega
   by_cases h7 : x = 7
   ·subst h7
    have h1 : 1 ≤ d := by
     rcases Nat.lt_or_ge d 1 with h | h
     ·have := HD'.out; rw [dStep_not0 d (by omega)] at this; cases this
     ·exact h
    have HD2 : Hid (d' = d) := Lib.hid (by have := HD'.out; rw [dStep_not d h1] at this; injection this with this; exact this.symm)
    obtain ⟨a, r, rfl⟩ : ∃ a r, st = a :: r := by
     match st, hlen with
     | [], h => simp at h; omega
     | a :: r, _ => exact ⟨a, r, rfl⟩
    obtain ⟨q, rfl⟩ : ∃ q, d = q + 1 := ⟨d - 1, by omega⟩; have hrq : r.length = q := by simpa using hlen
    subst hrq; obtain ⟨g, cap, hv, hg, hcap, hcapm⟩ := own_some hown (by omega); simp only [Value.slice.injEq] at hv; obtain ⟨rfl, -, rfl⟩ := hv
    unfold maxLen at hcapm
    obtain ⟨at_, ad, hav⟩ := a.val_form; have c0 : wr.cell? ⟨g, r.length, none⟩ = some (.iface at_ ad) := (hown.cellAt r.length (by omega)).trans (by rw [← hav]; exact conds_top a r); have f0 : wr.frozen? ⟨g, r.length, none⟩ = false := hown.frozenAt r.length
    have HO : Hid ((wr.setCell ⟨g, r.length, none⟩ (.iface 204 (.agg #[.iface at_ ad]))).ownsRow w.heap.size 185 1 (.slice (some ⟨g, 0, none⟩) (r.length + 1) cc) (r.length + 1) (conds (condStep (a :: r) 7))) := Lib.hid (by
     have h1 := (hown.stored r.length (Cond.turn a).val).1; rw [conds_set] at h1; simp only [Cond.val, hav] at h1
     exact h1)
    clear hlen hown h1 hav hlow; go_wp2
    go_roundw
    case rel => exact ⟨k + 1, r.length + 1, _, by omega, by omega, by go_num, Lib.hid (by have := HNX.out; rw [HD2.out] at this; exact this), HO.out, hbel.setCell hg _⟩
    case measure => simp [intOf]; omega
   have h89 : x = 8 ∨ x = 9 := by
    rcases Int.lt_or_le 9 x with h' | h'
    ·have := HD'.out; rw [dStep_out d x (.inr h')] at this; cases this
    omega
   have h2 : 2 ≤ d := by
    rcases Nat.lt_or_ge d 2 with h | h
    ·have := HD'.out; rw [dStep_two0 d x (by omega) (by omega) (by omega)] at this; cases this
    ·exact h
   have HD2 : Hid (d' = d - 1) := Lib.hid (by have := HD'.out; rw [dStep_two d x (by omega) (by omega) h2] at this; injection this with this; exact this.symm); have HCS : Hid (∀ p q r, condStep (p :: q :: r) x = .join x q p :: r) := Lib.hid (by intro p q r; unfold condStep; rw [if_neg hlow, if_neg h7])
   obtain ⟨a, b2, r, rfl⟩ : ∃ a b2 r, st = a :: b2 :: r := by
    match st, hlen with
    | [], h => simp at h; omega
    | [_], h => simp at h; omega
    | a :: b2 :: r, _ => exact ⟨a, b2, r, rfl⟩
   obtain ⟨q, rfl⟩ : ∃ q, d = q + 2 := ⟨d - 2, by omega⟩; have hrq : r.length = q := by simpa using hlen
   subst hrq; obtain ⟨g, cap, hv, hg, hcap, hcapm⟩ := own_some hown (by omega); simp only [Value.slice.injEq] at hv; obtain ⟨rfl, -, rfl⟩ := hv
   unfold maxLen at hcapm
   obtain ⟨at_, ad, hav⟩ := a.val_form; obtain ⟨bt_, bd, hbv⟩ := b2.val_form; have c1 : wr.cell? ⟨g, r.length + 1, none⟩ = some (.iface at_ ad) := (hown.cellAt (r.length + 1) (by omega)).trans (by rw [← hav]; exact conds_top a (b2 :: r)); have c0 : wr.cell? ⟨g, r.length, none⟩ = some (.iface bt_ bd) := (hown.cellAt r.length (by omega)).trans (by rw [conds_cons, List.getElem?_append_left (by rw [conds_len]; simp), ← hbv]; exact conds_top b2 r); have f0 : wr.frozen? ⟨g, r.length, none⟩ = false := hown.frozenAt r.length
   have HO : Hid ((wr.setCell ⟨g, r.length, none⟩ (.iface 208 (.agg #[.int .i64 x, .iface bt_ bd, .iface at_ ad]))).ownsRow w.heap.size 185 1 (.slice (some ⟨g, 0, none⟩) (r.length + 1) cc) (r.length + 1) (conds (condStep (a :: b2 :: r) x))) := Lib.hid (by
    have h1 := (hown.stored r.length (Cond.join x b2 a).val).1; have h2 := own_take (m := r.length + 1) h1 (by omega) (by omega); rw [conds_put] at h2; simp only [Cond.val, hav, hbv] at h2; rw [HCS.out]
    exact h2)
   clear hlen hown h2 hav hbv hlow h7 HCS
   rcases h89 with rfl | rfl
   ·go_upto_region 12 with (fail)
    go_region
    all_goals
     go_wp2
     go_roundw
     case rel => exact ⟨k + 1, r.length + 1, _, by omega, by omega, by go_num, Lib.hid (by have := HNX.out; rw [HD2.out] at this; exact this), HO.out, (hbel.setCell (p := ⟨g, r.length, none⟩) hg _).drew⟩
     case measure => simp [intOf]; omega
   ·go_upto_region 12 with (fail)
    go_region
    all_goals
     go_wp2
     go_roundw
     case rel => exact ⟨k + 1, r.length + 1, _, by omega, by omega, by go_num, Lib.hid (by have := HNX.out; rw [HD2.out] at this; exact this), HO.out, (hbel.setCell (p := ⟨g, r.length, none⟩) hg _).drew⟩
     case measure => simp [intOf]; omega
  ·have hkn : k = n := by omega
   subst hkn; obtain ⟨h1, h2, h3⟩ := HST.out; rw [← HL.out, List.take_length] at h2 h3; have hd1 : d = 1 := by have := h3.symm.trans HFIN.out; injection this
   subst hd1
   obtain ⟨a, rfl⟩ : ∃ a, st = [a] := by
    match st, h1 with
    | [a], _ => exact ⟨a, rfl⟩
   have HV : Hid (condOf xs = a) := Lib.hid (by unfold condOf; rw [h2]; rfl); obtain ⟨g, cap, hv, hg, hcap, hcapm⟩ := own_some hown (by omega); simp only [Value.slice.injEq] at hv; obtain ⟨rfl, -, rfl⟩ := hv; obtain ⟨at_, ad, hav⟩ := a.val_form; have c0 : wr.cell? ⟨g, 0, none⟩ = some (.iface at_ ad) := (hown.cellAt 0 (by omega)).trans (by rw [← hav]; rfl); have HAV := Bx.mk hav; clear h1 h2 h3 hown hav; go_wp2; go_ret; exact ⟨by rw [HV.out, HAV.out]; rfl, hbel⟩
theorem codeText_impl (A : Option Addr) (n c : Nat) (xs : List Int) (w : World) (h : RdI .i64 w w.heap.size A n c xs) :
  Calls Tryz.prog 165 #[.slice A n c] w fun e w' => e = .returned (.string ⟨(codeT xs).toArray⟩) ∧ Below w.heap.size w w' := by
 cases hok : codeOk xs with
 | false =>
  have HT : Hid (codeT xs = []) := Lib.hid (by unfold codeT; rw [hok]; rfl); go_enter Tryz.func165, Tryz.ntmps165
  go_wp2_with fail
  refine (codeValid_impl A n c xs _ h).mono ?_; rw [hok]; rintro e w1 ⟨rfl, rfl⟩; go_wp2; go_ret; exact ⟨ret_ba (a := ⟨#[]⟩) (by rw [HT.out]), Below.refl _ _⟩
 | true =>
  have HT : Hid (codeT xs = (condOf xs).text 0) := Lib.hid (by unfold codeT; rw [hok]; rfl); have HG := Lib.hid (condOf_good hok); have HLN : Hid (xs.length ≤ 40) := Lib.hid ((codeOk_iff xs).1 hok).2.1; have H := Lib.hid h; have HOK := Lib.hid hok; clear h hok; go_enter Tryz.func165, Tryz.ntmps165
  go_wp2_with fail
  refine (codeValid_impl A n c xs _ H.out).mono ?_; rw [HOK.out]; rintro e w1 ⟨rfl, rfl⟩
  go_wp2_with fail
  refine (conditionOf_any A n c xs _ H.out HOK.out).mono ?_; rintro e w2 ⟨rfl, hb2⟩; have HB2 := Lib.hid hb2; clear hb2; obtain ⟨ct, cd, hcv⟩ := (condOf xs).val_form; have HCV := Bx.mk hcv; rw [hcv]; clear hcv
  go_wp2_with fail
  rw [← HCV.out]; refine (conditionText_any _ HG.out.2.1 (by rw [HG.out.2.2]; have := HLN.out; omega) _).mono ?_; rintro e w3 ⟨rfl, hb3⟩; have HB3 := Lib.hid (HB2.out.trans (hb3.mono HB2.out.size)); clear hb3; go_wp2; go_ret; exact ⟨ret_ba (by rw [HT.out]), HB3.out⟩
theorem let_toNat {k : Nat} (h : k < 5) : ((UInt8.ofNat (97 + k)).toNat : Int) = 97 + (k : Int) := by
 rw [UInt8.toNat_ofNat']
 omega
theorem elByte : ElemT Tryz.prog 22 5 (.int .u8 0) 1 1 := ⟨Tryz.underlying22, info_parts (by kernel_rfl), rfl, by omega⟩
theorem conv_row {w : World} {base cap n : Nat} {A : Option Addr} {l : List UInt8} (h : w.ownsRow base 5 1 (.slice A n cap) n (Lib.byteCells l)) (hn : n = l.length) (h0 : l ≠ []) :
  (convert 22 9 (.slice A n cap)).run Tryz.prog w = .ok (.string ⟨l.toArray⟩) w := by
 subst hn; obtain ⟨g, c, hv, -⟩ := own_some h (List.length_pos_iff.2 h0); simp only [Value.slice.injEq] at hv; obtain ⟨rfl, -, rfl⟩ := hv; refine run_convert_bytes_back w 22 9 5 ⟨g, 0, none⟩ cap l Tryz.underlying22 Tryz.underlying5 Tryz.underlying9 fun j hj => ?_
 have h1 := h.cellAt j (by omega); have h2 : (Lib.byteCells l)[j]? = some (.int .u8 (l[j].toNat : Int)) := by simp [Lib.byteCells, hj]
 rw [h2] at h1
 have e : (⟨g, 0, none⟩ : Addr).add j = ⟨g, j, none⟩ := by
  cases j with
  | zero => rfl
  | succ j => simp [Addr.add]
 rw [e]; exact h1
theorem factLetters_any (n : Nat) (hn : n < 32) (w : World) :
  Calls Tryz.prog 113 #[.int .i64 (n : Int)] w fun e w' => e = .returned (.string ⟨(letT n).toArray⟩) ∧ Below w.heap.size w w' := by
 by_cases h0 : n = 0
 ·subst h0; go_enter Tryz.func113, Tryz.ntmps113; go_wp2; go_ret; exact ⟨rfl, Below.refl _ _⟩
 have HT : Hid (letT n = letP n 5) := Lib.hid (by unfold letT; rw [if_neg h0]); have HNE : Hid (letP n 5 ≠ []) := Lib.hid (letP_ne n hn h0); have h0' : ((n : Int) == 0) = false := beq_false_of_ne (by omega); clear h0; go_enter Tryz.func113, Tryz.ntmps113; go_wp2; clear h0'
 go_loopw [7, 3] (fun i v wr => ∃ (k m : Nat), k ≤ 5 ∧ i = .int .i64 k ∧ m ≤ k ∧ Hid (m = (letP n k).length) ∧ wr.ownsRow w.heap.size 5 1 v m (Lib.byteCells (letP n k)) ∧ Below w.heap.size w wr) (fun i _ _ => 5 - (intOf i).toNat)
 case atStart => exact ⟨0, 0, by omega, rfl, by omega, Lib.hid rfl, World.ownsRow_nil w _ _ 1, Below.refl _ _⟩
 case round =>
  obtain ⟨k, m, hk, rfl, hm, HM, hown, hbel⟩ := hrel; have hsz := hbel.size; obtain ⟨C, cc, rfl⟩ := own_form hown
  by_cases hlt : k < 5
  ·have hbit := and_one n k (by omega)
   by_cases hb1 : bit n k = 1
   ·rw [hb1] at hbit; have HN := Lib.hid (letP_yes hb1); have HL := Lib.hid (let_toNat hlt); clear hb1
    go_wp2_with (at_builtin; refine wp_app elByte rfl _ _ rfl w.heap.size _ m _ rfl (hown.alloc _) _ _ 1 1 [.int .u8 (97 + (k : Int))] rfl (RdRow.new wr [.int .u8 (97 + (k : Int))] 5 1 1 rfl (by unfold maxLen; omega)) (by simp [Value.oneCell']) (by omega) (by omega) (by simp; omega) ?_; intro v5 w5 hown5 hg5 hat5)
    have hb5 : Below w.heap.size w w5 := (hbel.alloc hsz _).grown hg5 (by simp; omega) (fun k hk => by have := (hown.lt k hk).1; omega); have ho5 : w5.ownsRow w.heap.size 5 1 v5 (m + 1) (Lib.byteCells (letP n (k + 1))) := by rw [HN.out, Lib.byteCells_append]; simp only [Lib.byteCells, List.map_cons, List.map_nil, HL.out] at hown5 ⊢; exact hown5
    clear hown5 hg5 hat5; go_wp2
    go_roundw
    case rel => exact ⟨k + 1, m + 1, by omega, by go_num, by omega, Lib.hid (by rw [HN.out, HM.out]; simp), ho5, hb5⟩
    case measure => simp [intOf]; omega
   ·have hb0 : bit n k = 0 := by have := bit_lt n k; omega
    rw [hb0] at hbit; have HN := Lib.hid (letP_no hb0); clear hb1 hb0; go_wp2
    go_roundw
    case rel => exact ⟨k + 1, m, by omega, by go_num, by omega, Lib.hid (by rw [HN.out]; exact HM.out), by rw [HN.out]; exact hown, hbel⟩
    case measure => simp [intOf]; omega
  ·obtain rfl : k = 5 := by omega
   have hcv := conv_row hown HM.out HNE.out; clear hown; go_wp2; go_ret; exact ⟨ret_ba (by rw [HT.out]), hbel⟩
theorem readLetters_any (s : ByteArray) (w : World) :
  Calls Tryz.prog 171 #[.string s] w fun e w' => e = .returned (.tuple #[.int .i64 ((setL s.data.toList).getD 0 : Nat), .bool (setL s.data.toList).isSome]) ∧ Below w.heap.size w w' := by
 obtain ⟨o, ho⟩ : ∃ x, setL s.data.toList = x := ⟨_, rfl⟩; rw [ho]; go_enter Tryz.func171, Tryz.ntmps171; go_wp2
 go_loopw [5] (fun i wr => ∃ k : Nat, k ≤ 32 ∧ i = .int .i64 k ∧ Hid (∀ j, j < k → letT j ≠ s.data.toList) ∧ Below w.heap.size w wr) (fun i _ => 32 - (intOf i).toNat)
 case atStart => exact ⟨0, by omega, rfl, Lib.hid (by omega), Below.refl _ _⟩
 case round =>
  obtain ⟨k, hk, rfl, HN, hbel⟩ := hrel; have HB := Lib.hid hbel; have HO := Bx.mk ho; clear hbel
  by_cases hlt : k < 32
  ·go_wp2_with fail
   refine (factLetters_any k hlt _).mono ?_; rintro e w1 ⟨rfl, hb⟩; have HB1 := Lib.hid (HB.out.trans (hb.mono HB.out.size)); clear hb; obtain ⟨q, hq⟩ : ∃ q : ByteArray, (⟨(letT k).toArray⟩ : ByteArray) = q := ⟨_, rfl⟩; have hql : q.toList = letT k := by rw [← hq, Lib.toList_data]
   rw [hq]
   by_cases he : letT k = s.data.toList
   ·have hne : (q.toList == s.toList) = true := by rw [hql, Lib.toList_data, he]; simp
    have HV : Hid (o = some k) := Lib.hid (by rw [← HO.out, ← he, letT_inj k hlt]); clear he hq hql; go_wp2; exact bodyPost_ret (v := .tuple #[.int .i64 (k : Int), .bool true]) (by simp [results, Tryz.results171, go_sem]) rfl ⟨by rw [HV.out]; rfl, HB1.out⟩
   ·have hne : (q.toList == s.toList) = false := by rw [hql, Lib.toList_data]; exact beq_false_of_ne he
    have HN2 : Hid (∀ j, j < k + 1 → letT j ≠ s.data.toList) := Lib.hid fun j hj => by
     rcases Nat.lt_or_ge j k with h | h
     ·exact HN.out j h
     ·obtain rfl : j = k := by omega
      exact he
    clear he hq hql; go_wp2
    go_roundw
    case rel => exact ⟨k + 1, by omega, by go_num, HN2, HB1.out⟩
    case measure => simp [intOf]; omega
  ·have HV : Hid (o = none) := Lib.hid (by
    rw [← HO.out]
    cases h : setL s.data.toList with
    | none => rfl
    | some j =>
     obtain ⟨h1, h2⟩ := setL_some h
     exact absurd h2 (HN.out j (by omega)))
   go_wp2; exact bodyPost_ret (v := .tuple #[.int .i64 0, .bool false]) (by simp [results, Tryz.results171, go_sem]) rfl ⟨by rw [HV.out]; rfl, HB.out⟩
theorem l6Letters_any (n : Nat) (hn : n < 32) (w : World) :
  Calls Tryz.prog 59 #[.int .i64 (n : Int)] w fun e w' => e = .returned (.string ⟨(letT n).toArray⟩) ∧ Below w.heap.size w w' := by
 have HT : Hid (n ≠ 0 → letT n = letP n 5) := Lib.hid (fun h0 => by unfold letT; rw [if_neg h0]); have HNE : Hid (n ≠ 0 → letP n 5 ≠ []) := Lib.hid (fun h0 => letP_ne n hn h0); go_enter Tryz.func59, Tryz.ntmps59; go_wp2
 go_loopw [4, 3] (fun i v wr => ∃ (k : Nat) (q : ByteArray), k ≤ 5 ∧ i = .int .i64 k ∧ v = .string q ∧ q.size ≤ k ∧ Hid (q = ⟨(letP n k).toArray⟩) ∧ Below w.heap.size w wr) (fun i _ _ => 5 - (intOf i).toNat)
 case atStart => exact ⟨0, ⟨#[]⟩, by omega, rfl, rfl, by decide, Lib.hid rfl, Below.refl _ _⟩
 case round =>
  obtain ⟨k, q, hk, rfl, rfl, hq, HQ, hbel⟩ := hrel; have HB := Lib.hid hbel; clear hbel
  by_cases hlt : k < 5
  ·by_cases hb1 : bit n k = 1
   ·have HN := Lib.hid (letP_yes hb1); have HL := Lib.hid (let_toNat hlt); have h1 : ¬ 9223372036854775807 < q.size + 1 := by omega
    go_wp2_with fail
    refine (l1Bit_nat n k (by omega) _).mono ?_; rw [hb1]; rintro e w1 ⟨rfl, rfl⟩
    have hcv : (convert 22 9 (.slice (some ⟨wr.heap.size, 0, none⟩) 1 1)).run Tryz.prog (wr.alloc (.cells #[.int .u8 (97 + (k : Int))] 5)) = .ok (.string ⟨[UInt8.ofNat (97 + k)].toArray⟩) (wr.alloc (.cells #[.int .u8 (97 + (k : Int))] 5)) :=
     conv_one _ _ _ (by rw [HL.out]; exact (Blk.new wr 5 #[.int .u8 (97 + (k : Int))]).cell 0)
    obtain ⟨u, hu⟩ : ∃ u, UInt8.ofNat (97 + k) = u := ⟨_, rfl⟩; rw [hu] at hcv; have HQ2 : Hid (q ++ ⟨[u].toArray⟩ = ⟨(letP n (k + 1)).toArray⟩) := Lib.hid (by rw [HQ.out, HN.out, ba_app, hu]); have HZ : Hid ((q ++ ⟨[u].toArray⟩).size ≤ k + 1) := Lib.hid (by rw [ByteArray.size_append]; have : (⟨[u].toArray⟩ : ByteArray).size = 1 := rfl; omega); clear hu; clear hb1; go_wp2
    go_roundw
    case rel => exact ⟨k + 1, _, by omega, by go_num, rfl, HZ.out, HQ2, HB.out.alloc HB.out.size _⟩
    case measure => simp [intOf]; omega
   ·have hb0 : bit n k = 0 := by have := bit_lt n k; omega
    have HN := Lib.hid (letP_no hb0)
    go_wp2_with fail
    refine (l1Bit_nat n k (by omega) _).mono ?_; rw [hb0]; rintro e w1 ⟨rfl, rfl⟩; clear hb1 hb0; go_wp2
    go_roundw
    case rel => exact ⟨k + 1, q, by omega, by go_num, rfl, by omega, Lib.hid (by rw [HN.out]; exact HQ.out), HB.out⟩
    case measure => simp [intOf]; omega
  ·obtain rfl : k = 5 := by omega
   by_cases h0 : n = 0
   ·subst h0; have hqe : q = ⟨#[]⟩ := HQ.out; subst hqe; go_wp2; go_ret; exact ⟨rfl, HB.out⟩
   ·have hb : q.toList.isEmpty = false := by
     rw [Lib.toList_data, HQ.out]
     have := HNE.out h0
     cases h : letP n 5 with
     | nil => exact absurd h this
     | cons x y => rfl
    have HV : Hid (q = ⟨(letT n).toArray⟩) := Lib.hid (by rw [HT.out h0]; exact HQ.out); clear h0; go_wp2; go_ret; exact ⟨ret_ba HV.out, HB.out⟩
def setZ (s : List UInt8) : Int := match setL s with | some n => (n : Int) | none => -1
theorem l6Set_any (s : ByteArray) (w : World) :
  Calls Tryz.prog 132 #[.string s] w fun e w' => e = .returned (.int .i64 (setZ s.data.toList)) ∧ Below w.heap.size w w' := by
 obtain ⟨o, ho⟩ : ∃ x, setZ s.data.toList = x := ⟨_, rfl⟩; rw [ho]; go_enter Tryz.func132, Tryz.ntmps132; go_wp2
 go_loopw [3] (fun i wr => ∃ k : Nat, k ≤ 32 ∧ i = .int .i64 k ∧ Hid (∀ j, j < k → letT j ≠ s.data.toList) ∧ Below w.heap.size w wr) (fun i _ => 32 - (intOf i).toNat)
 case atStart => exact ⟨0, by omega, rfl, Lib.hid (by omega), Below.refl _ _⟩
 case round =>
  obtain ⟨k, hk, rfl, HN, hbel⟩ := hrel; have HB := Lib.hid hbel; have HO := Bx.mk ho; clear hbel
  by_cases hlt : k < 32
  ·go_wp2_with fail
   refine (l6Letters_any k hlt _).mono ?_; rintro e w1 ⟨rfl, hb⟩; have HB1 := Lib.hid (HB.out.trans (hb.mono HB.out.size)); clear hb; obtain ⟨q, hq⟩ : ∃ q : ByteArray, (⟨(letT k).toArray⟩ : ByteArray) = q := ⟨_, rfl⟩; have hql : q.toList = letT k := by rw [← hq, Lib.toList_data]
   rw [hq]
   by_cases he : letT k = s.data.toList
   ·have hne : (q.toList == s.toList) = true := by rw [hql, Lib.toList_data, he]; simp
    have HV : Hid (o = (k : Int)) := Lib.hid (by rw [← HO.out, ← he]; unfold setZ; rw [letT_inj k hlt]); clear he hq hql; go_wp2; go_ret; exact ⟨ret_int HV.out.symm, HB1.out⟩
   ·have hne : (q.toList == s.toList) = false := by rw [hql, Lib.toList_data]; exact beq_false_of_ne he
    have HN2 : Hid (∀ j, j < k + 1 → letT j ≠ s.data.toList) := Lib.hid fun j hj => by
     rcases Nat.lt_or_ge j k with h | h
     ·exact HN.out j h
     ·obtain rfl : j = k := by omega
      exact he
    clear he hq hql; go_wp2
    go_roundw
    case rel => exact ⟨k + 1, by omega, by go_num, HN2, HB1.out⟩
    case measure => simp [intOf]; omega
  ·have HV : Hid (o = -1) := Lib.hid (by
    rw [← HO.out]
    unfold setZ
    cases h : setL s.data.toList with
    | none => rfl
    | some j =>
     obtain ⟨h1, h2⟩ := setL_some h
     exact absurd h2 (HN.out j (by omega)))
   go_wp2; go_ret; exact ⟨ret_int HV.out.symm, HB.out⟩
end Go.Proofs.YtkmcengmglgdeaaGreatDoor
