/- Joined texts: CondW, TaskTI, ReachS. -/
import Derived.Test.YtkmcengmglgdeaaGreatDoorSCondT
import Derived.Test.YtkmcengmglgdeaaGreatDoorSRun
import Derived.Test.YtkmcengmglgdeaaGreatDoorSNum
import Derived.Test.YtkmcengmglgdeaaGreatDoorSEndP
import Derived.Test.YtkmcengmglgdeaaGreatDoorSLet
import Derived.Test.YtkmcengmglgdeaaGreatDoorSReach

namespace Go.Proofs.YtkmcengmglgdeaaGreatDoor
set_option linter.unusedVariables false
set_option linter.unusedSimpArgs false
open Go.ChangeShapes Go.WideShapes Go.ChangeAt Go.RowKit

theorem elCond : ElemT Tryz.prog 209 185 .nilIface 1 16 := ⟨Tryz.underlying209, info_parts (by kernel_rfl), rfl, by omega⟩
def conds (st : List Cond) : List Value := st.reverse.map Cond.val
theorem conds_cons (a : Cond) (r : List Cond) : conds (a :: r) = conds r ++ [a.val] := by simp [conds]
theorem conds_len (st : List Cond) : (conds st).length = st.length := by simp [conds]
theorem conds_top (a : Cond) (r : List Cond) : (conds (a :: r))[r.length]? = some a.val := by
 rw [conds_cons, List.getElem?_append_right (by rw [conds_len]; omega), conds_len]; simp
theorem conds_set (a v : Cond) (r : List Cond) : (conds (a :: r)).set r.length v.val = conds (v :: r) := by
 rw [conds_cons, conds_cons, List.set_append_right _ _ (by rw [conds_len]; omega), conds_len]; simp
theorem conds_put (a b2 v : Cond) (r : List Cond) : ((conds (a :: b2 :: r)).set r.length v.val).take ((r.length + 1) * 1) = conds (v :: r) := by
 rw [conds_cons a, List.set_append_left _ _ (by rw [conds_len]; simp), conds_set, Nat.mul_one, List.take_append_of_le_length (by rw [conds_len]; simp), List.take_of_length_le (by rw [conds_len]; simp)]
theorem condStep_len {st : List Cond} {x : Int} {d' : Nat} (h : dStep st.length x = some d') : (condStep st x).length = d' := by
 unfold dStep at h
 unfold condStep
 by_cases h1 : x < 0 ∨ 9 < x
 ·rw [if_pos h1] at h; cases h
 rw [if_neg h1] at h
 by_cases h2 : x ≤ 6
 ·rw [if_pos h2] at h ⊢; injection h
 rw [if_neg h2] at h ⊢
 by_cases h3 : x = 7
 ·rw [if_pos h3] at h ⊢
  match st, h with
  | p :: r, h => simpa using h
  | [], h => simp at h
 rw [if_neg h3] at h ⊢
 match st, h with
 | b :: a :: r, h => simpa using h
 | [_], h => simp at h
 | [], h => simp at h
set_option maxRecDepth 100000 in
set_option maxHeartbeats 1000000 in
theorem conditionOf_any (A : Option Addr) (n c : Nat) (xs : List Int) (w : World) (h : RdI .i64 w w.heap.size A n c xs) (hok : codeOk xs = true) :
  Calls Tryz.prog 192 #[.slice A n c] w fun e w' => e = .returned (condOf xs).val ∧ Below w.heap.size w w' := by
 have hl := h.len; obtain ⟨hn1, hn2, hfin⟩ := (codeOk_iff xs).1 hok; rw [hl] at hn1 hn2; have HL := Lib.hid hl; have HAT := Lib.hid (codeOk_at xs hok); have HFIN := Lib.hid hfin; clear hl hfin hok; go_enter Tryz.func192, Tryz.ntmps192; go_wp2
 go_loopw [9, 3] (fun i v wr => ∃ (k d : Nat) (st : List Cond), k ≤ n ∧ d ≤ k ∧ i = .int .i64 k ∧ Hid (st.length = d ∧ condRun [] (xs.take k) = st ∧ dRun 0 (xs.take k) = some d) ∧ wr.ownsRow w.heap.size 185 1 v d (conds st) ∧ Below w.heap.size w wr) (fun i _ _ => n - (intOf i).toNat)
 case atStart => exact ⟨0, 0, [], by omega, by omega, rfl, Lib.hid ⟨rfl, rfl, rfl⟩, World.ownsRow_nil w _ _ 1, Below.refl _ _⟩
 case round =>
  obtain ⟨k, d, st, hk, hd, rfl, HST, hown, hbel⟩ := hrel; have hsz := hbel.size; obtain ⟨C, cc, rfl⟩ := own_form hown
  by_cases hlt : k < n
  ·obtain ⟨b, off, x, rfl, hb, hx, hw, hc⟩ := h.get hlt; have hcr : wr.cell? ⟨b, off + k, none⟩ = some (.int .i64 x) := (bcells hbel b _ hb).trans hc; obtain ⟨d0, hd0, -, hstep⟩ := HAT.out k (by rw [HL.out]; exact hk); obtain ⟨d', hd'⟩ := hstep x hx
   have hdd : d0 = d := by
    have := hd0.symm.trans HST.out.2.2
    injection this
   rw [hdd] at hd'; have HNX : Hid ((condStep st x).length = d' ∧ condRun [] (xs.take (k + 1)) = condStep st x ∧ dRun 0 (xs.take (k + 1)) = some d') := Lib.hid ⟨condStep_len (by rw [HST.out.1]; exact hd'), by rw [condRun_take xs k x hx, HST.out.2.1], by have h1 := (dRun_step xs k x hx d HST.out.2.2).1; rw [h1]; exact hd'⟩; have HD' := Lib.hid hd'; have hlen := HST.out.1; clear hx hd0 hstep hd' hdd hc HST
   by_cases hlow : x ≤ 6
   ·have hx0 : 0 ≤ x := by
     rcases Int.lt_or_le x 0 with h | h
     ·have := HD'.out; rw [dStep_out d x (.inl h)] at this; cases this
     ·exact h
    have HD2 : Hid (d' = d + 1) := Lib.hid (by have := HD'.out; rw [dStep_push d x hx0 hlow] at this; injection this with this; exact this.symm); have HES : Hid (condStep st x = .one x :: st) := Lib.hid (by unfold condStep; rw [if_pos hlow]); have e7 : (x == 7) = false := beq_false_of_ne (by omega); have e8 : (x == 8) = false := beq_false_of_ne (by omega); have e9 : (x == 9) = false := beq_false_of_ne (by omega); clear hlen hlow hx0
    go_wp2_with (at_builtin; refine wp_app elCond rfl _ _ rfl w.heap.size _ d _ rfl (hown.alloc _) _ _ 1 1 [.iface 202 (.agg #[.int .i64 x])] rfl (RdRow.new wr [.iface 202 (.agg #[.int .i64 x])] 185 1 1 rfl (by unfold maxLen; omega)) (by simp [Value.oneCell']) (by omega) (by omega) (by simp; omega) ?_; intro v5 w5 hown5 hg5 hat5)
    have hb5 : Below w.heap.size w w5 := (hbel.alloc hsz _).grown hg5 (by simp; omega) (fun k hk => by have := (hown.lt k hk).1; omega); have ho5 : w5.ownsRow w.heap.size 185 1 v5 (d + 1) (conds (condStep st x)) := by rw [HES.out, conds_cons]; exact hown5
    clear hown5 hg5 hat5; go_wp2
    go_roundw
    case rel => exact ⟨k + 1, d + 1, _, by omega, by omega, by go_num, Lib.hid (by rw [← HD2.out]; exact HNX.out), ho5, hb5⟩
    case measure => simp [intOf]; omega
   by_cases h7 : x = 7
   ·subst h7
    have h1 : 1 ≤ d := by
     rcases Nat.lt_or_ge d 1 with h | h
     ·have := HD'.out; rw [dStep_not0 d (by omega)] at this; cases this
     ·exact h
    have HD2 : Hid (d' = d) := Lib.hid (by have := HD'.out; rw [dStep_not d h1] at this; injection this with this; exact this.symm)
    obtain ⟨a, r, rfl⟩ : ∃ a r, st = a :: r := by
     match st, hlen with
     | [], h => simp at h; omega
     | a :: r, _ => exact ⟨a, r, rfl⟩
    obtain ⟨q, rfl⟩ : ∃ q, d = q + 1 := ⟨d - 1, by omega⟩; have hrq : r.length = q := by simpa using hlen
    subst hrq; obtain ⟨g, cap, hv, hg, hcap, hcapm⟩ := own_some hown (by omega); simp only [Value.slice.injEq] at hv; obtain ⟨rfl, -, rfl⟩ := hv
    unfold maxLen at hcapm
    obtain ⟨at_, ad, hav⟩ := a.val_form; have c0 : wr.cell? ⟨g, r.length, none⟩ = some (.iface at_ ad) := (hown.cellAt r.length (by omega)).trans (by rw [← hav]; exact conds_top a r); have f0 : wr.frozen? ⟨g, r.length, none⟩ = false := hown.frozenAt r.length
    have HO : Hid ((wr.setCell ⟨g, r.length, none⟩ (.iface 204 (.agg #[.iface at_ ad]))).ownsRow w.heap.size 185 1 (.slice (some ⟨g, 0, none⟩) (r.length + 1) cc) (r.length + 1) (conds (condStep (a :: r) 7))) := Lib.hid (by
     have h1 := (hown.stored r.length (Cond.turn a).val).1; rw [conds_set] at h1; simp only [Cond.val, hav] at h1
     exact h1)
    clear hlen hown h1 hav hlow; go_wp2
    go_roundw
    case rel => exact ⟨k + 1, r.length + 1, _, by omega, by omega, by go_num, Lib.hid (by have := HNX.out; rw [HD2.out] at this; exact this), HO.out, hbel.setCell hg _⟩
    case measure => simp [intOf]; omega
   have h89 : x = 8 ∨ x = 9 := by
    rcases Int.lt_or_le 9 x with h' | h'
    ·have := HD'.out; rw [dStep_out d x (.inr h')] at this; cases this
    omega
   have h2 : 2 ≤ d := by
    rcases Nat.lt_or_ge d 2 with h | h
    ·have := HD'.out; rw [dStep_two0 d x (by omega) (by omega) (by omega)] at this; cases this
    ·exact h
   have HD2 : Hid (d' = d - 1) := Lib.hid (by have := HD'.out; rw [dStep_two d x (by omega) (by omega) h2] at this; injection this with this; exact this.symm); have HCS : Hid (∀ p q r, condStep (p :: q :: r) x = .join x q p :: r) := Lib.hid (by intro p q r; unfold condStep; rw [if_neg hlow, if_neg h7])
   obtain ⟨a, b2, r, rfl⟩ : ∃ a b2 r, st = a :: b2 :: r := by
    match st, hlen with
    | [], h => simp at h; omega
    | [_], h => simp at h; omega
    | a :: b2 :: r, _ => exact ⟨a, b2, r, rfl⟩
   obtain ⟨q, rfl⟩ : ∃ q, d = q + 2 := ⟨d - 2, by omega⟩; have hrq : r.length = q := by simpa using hlen
   subst hrq; obtain ⟨g, cap, hv, hg, hcap, hcapm⟩ := own_some hown (by omega); simp only [Value.slice.injEq] at hv; obtain ⟨rfl, -, rfl⟩ := hv
   unfold maxLen at hcapm
   obtain ⟨at_, ad, hav⟩ := a.val_form; obtain ⟨bt_, bd, hbv⟩ := b2.val_form; have c1 : wr.cell? ⟨g, r.length + 1, none⟩ = some (.iface at_ ad) := (hown.cellAt (r.length + 1) (by omega)).trans (by rw [← hav]; exact conds_top a (b2 :: r)); have c0 : wr.cell? ⟨g, r.length, none⟩ = some (.iface bt_ bd) := (hown.cellAt r.length (by omega)).trans (by rw [conds_cons, List.getElem?_append_left (by rw [conds_len]; simp), ← hbv]; exact conds_top b2 r); have f0 : wr.frozen? ⟨g, r.length, none⟩ = false := hown.frozenAt r.length
   have HO : Hid ((wr.setCell ⟨g, r.length, none⟩ (.iface 208 (.agg #[.int .i64 x, .iface bt_ bd, .iface at_ ad]))).ownsRow w.heap.size 185 1 (.slice (some ⟨g, 0, none⟩) (r.length + 1) cc) (r.length + 1) (conds (condStep (a :: b2 :: r) x))) := Lib.hid (by
    have h1 := (hown.stored r.length (Cond.join x b2 a).val).1; have h2 := own_take (m := r.length + 1) h1 (by omega) (by omega); rw [conds_put] at h2; simp only [Cond.val, hav, hbv] at h2; rw [HCS.out]
    exact h2)
   clear hlen hown h2 hav hbv hlow h7 HCS
   rcases h89 with rfl | rfl
   ·go_upto_region 12 with (fail)
    go_region
    all_goals
     go_wp2
     go_roundw
     case rel => exact ⟨k + 1, r.length + 1, _, by omega, by omega, by go_num, Lib.hid (by have := HNX.out; rw [HD2.out] at this; exact this), HO.out, (hbel.setCell (p := ⟨g, r.length, none⟩) hg _).drew⟩
     case measure => simp [intOf]; omega
   ·go_upto_region 12 with (fail)
    go_region
    all_goals
     go_wp2
     go_roundw
     case rel => exact ⟨k + 1, r.length + 1, _, by omega, by omega, by go_num, Lib.hid (by have := HNX.out; rw [HD2.out] at this; exact this), HO.out, (hbel.setCell (p := ⟨g, r.length, none⟩) hg _).drew⟩
     case measure => simp [intOf]; omega
  ·have hkn : k = n := by omega
   subst hkn; obtain ⟨h1, h2, h3⟩ := HST.out; rw [← HL.out, List.take_length] at h2 h3; have hd1 : d = 1 := by have := h3.symm.trans HFIN.out; injection this
   subst hd1
   obtain ⟨a, rfl⟩ : ∃ a, st = [a] := by
    match st, h1 with
    | [a], _ => exact ⟨a, rfl⟩
   have HV : Hid (condOf xs = a) := Lib.hid (by unfold condOf; rw [h2]; rfl); obtain ⟨g, cap, hv, hg, hcap, hcapm⟩ := own_some hown (by omega); simp only [Value.slice.injEq] at hv; obtain ⟨rfl, -, rfl⟩ := hv; obtain ⟨at_, ad, hav⟩ := a.val_form; have c0 : wr.cell? ⟨g, 0, none⟩ = some (.iface at_ ad) := (hown.cellAt 0 (by omega)).trans (by rw [← hav]; rfl); have HAV := Bx.mk hav; clear h1 h2 h3 hown hav; go_wp2; go_ret; exact ⟨by rw [HV.out, HAV.out]; rfl, hbel⟩
set_option maxRecDepth 100000 in
theorem codeText_impl (A : Option Addr) (n c : Nat) (xs : List Int) (w : World) (h : RdI .i64 w w.heap.size A n c xs) :
  Calls Tryz.prog 165 #[.slice A n c] w fun e w' => e = .returned (.string ⟨(codeT xs).toArray⟩) ∧ Below w.heap.size w w' := by
 cases hok : codeOk xs with
 | false =>
  have HT : Hid (codeT xs = []) := Lib.hid (by unfold codeT; rw [hok]; rfl); go_enter Tryz.func165, Tryz.ntmps165
  go_wp2_with fail
  refine (codeValid_impl A n c xs _ h).mono ?_; rw [hok]; rintro e w1 ⟨rfl, rfl⟩; go_wp2; go_ret; exact ⟨ret_ba (a := ⟨#[]⟩) (by rw [HT.out]), Below.refl _ _⟩
 | true =>
  have HT : Hid (codeT xs = (condOf xs).text 0) := Lib.hid (by unfold codeT; rw [hok]; rfl); have HG := Lib.hid (condOf_good hok); have HLN : Hid (xs.length ≤ 40) := Lib.hid ((codeOk_iff xs).1 hok).2.1; have H := Lib.hid h; have HOK := Lib.hid hok; clear h hok; go_enter Tryz.func165, Tryz.ntmps165
  go_wp2_with fail
  refine (codeValid_impl A n c xs _ H.out).mono ?_; rw [HOK.out]; rintro e w1 ⟨rfl, rfl⟩
  go_wp2_with fail
  refine (conditionOf_any A n c xs _ H.out HOK.out).mono ?_; rintro e w2 ⟨rfl, hb2⟩; have HB2 := Lib.hid hb2; clear hb2; obtain ⟨ct, cd, hcv⟩ := (condOf xs).val_form; have HCV := Bx.mk hcv; rw [hcv]; clear hcv
  go_wp2_with fail
  rw [← HCV.out]; refine (conditionText_any _ HG.out.2.1 (by rw [HG.out.2.2]; have := HLN.out; omega) _).mono ?_; rintro e w3 ⟨rfl, hb3⟩; have HB3 := Lib.hid (HB2.out.trans (hb3.mono HB2.out.size)); clear hb3; go_wp2; go_ret; exact ⟨ret_ba (by rw [HT.out]), HB3.out⟩
end Go.Proofs.YtkmcengmglgdeaaGreatDoor


namespace Go.Proofs.YtkmcengmglgdeaaGreatDoor
set_option linter.unusedVariables false
set_option linter.unusedSimpArgs false
open Go.ChangeShapes Go.WideShapes Go.ChangeAt Go.RowKit

def deedT (d : DeedD) : List UInt8 := 59 :: (codeT d.need ++ 58 :: (letT d.on.toNat ++ 44 :: (letT d.off.toNat ++ 44 :: letT d.flip.toNat)))
def headT (t : TaskD) : List UInt8 := letT t.start.toNat ++ 62 :: codeT t.goal
theorem taskT_split (t : TaskD) : taskT t = headT t ++ t.deeds.flatMap deedT := by
 unfold taskT headT deedT; simp
theorem deedT_len (d : DeedD) : (deedT d).length ≤ 300 := by
 have h1 := codeT_len d.need; have h2 := letT_len d.on.toNat; have h3 := letT_len d.off.toNat; have h4 := letT_len d.flip.toNat
 unfold deedT
 simp only [List.length_append, List.length_cons]; omega
theorem headT_len (t : TaskD) : (headT t).length ≤ 300 := by
 have h1 := codeT_len t.goal; have h2 := letT_len t.start.toNat
 unfold headT
 simp only [List.length_append, List.length_cons]; omega
theorem deedsT_len (ds : List DeedD) : (ds.flatMap deedT).length ≤ 300 * ds.length := by
 induction ds with
 | nil => simp
 | cons d ds ih => have := deedT_len d; simp only [List.flatMap_cons, List.length_append, List.length_cons]; omega
theorem deeds_snoc {ds : List DeedD} {k : Nat} {d : DeedD} (h : ds[k]? = some d) : (ds.take (k + 1)).flatMap deedT = (ds.take k).flatMap deedT ++ deedT d := by
 rw [List.take_add_one, h]; simp
theorem deed_sets {d : DeedD} (h : deedOk d = true) : (0 ≤ d.on ∧ d.on < 32) ∧ (0 ≤ d.off ∧ d.off < 32) ∧ 0 ≤ d.flip ∧ d.flip < 32 := by
 unfold deedOk at h
 simp only [Bool.and_eq_true] at h; exact ⟨(stIn_iff _).1 h.1.1.1.2, (stIn_iff _).1 h.1.1.2, (stIn_iff _).1 h.1.2⟩
set_option maxRecDepth 100000 in
set_option maxHeartbeats 2000000 in
theorem taskText_impl (v : Value) (t : TaskD) (w : World) (h : RdT w w.heap.size v t) (hok : taskOk t = true) :
  Calls Tryz.prog 114 #[v] w fun e w' => e = .returned (.string ⟨(taskT t).toArray⟩) ∧ Below w.heap.size w w' := by
 have h' := h; obtain ⟨G, gn, gc, G', n', c', rfl, hg, hgs, hds, hst⟩ := h; have HV := Lib.hid h'; have HG := Lib.hid hg; have HDS := Lib.hid hds; have HOK := Lib.hid hok; obtain ⟨hs01, -, hn6, hdok⟩ := taskOk_parts t hok; obtain ⟨st, hst'⟩ : ∃ x, t.start = x := ⟨_, rfl⟩; obtain ⟨s0, rfl⟩ := Int.eq_ofNat_of_zero_le (show 0 ≤ st by omega); have hs32 : s0 < 32 := by omega
 have HDOK := Lib.hid hdok; have hn6' : n' ≤ 6 := by rw [← hds.len]; exact hn6
 have HDL := Lib.hid hds.len; have HST : Hid (t.start.toNat = s0) := Lib.hid (by rw [hst']; simp); rw [hst'] at HV ⊢
 have HSP := Lib.hid (taskT_split t); have HHD : Hid (headT t = letT s0 ++ [62] ++ codeT t.goal) := Lib.hid (by unfold headT; rw [HST.out]; simp); have HHL := Lib.hid (headT_len t); have HB0 : Hid (Below w.heap.size w (w.alloc (.cells #[.int .i64 (s0 : Int), .slice G gn gc, .slice G' n' c'] 26))) := Lib.hid ((Below.refl _ _).alloc (Nat.le_refl _) _); clear h' hg hgs hds hst hok hs01 hn6 hdok hst'; go_enter Tryz.func114, Tryz.ntmps114
 go_wp2_with fail
 refine (taskValid_impl _ t _ (HV.out.up HB0.out)).mono ?_; rw [HOK.out]; rintro e w1 ⟨rfl, hb1⟩; have k1 : Blk w1 w.heap.size 26 #[.int .i64 (s0 : Int), .slice G gn gc, .slice G' n' c'] := (hb1.block _ (by simp)).trans (Blk.new w _ _); have HB1 := Lib.hid (HB0.out.trans (hb1.mono HB0.out.size)); have HT1 := Lib.hid (TS.new2 HB1.out k1 k1.lt rfl (by decide)); have q0 : (w1.alloc (.cells #[.pointer none, .slice none 0 0] 117)).cell? ⟨w.heap.size, 0, none⟩ = some (.int .i64 (s0 : Int)) := HT1.out.cell 0 rfl 0; obtain ⟨b, hb⟩ : ∃ x, w1.heap.size = x := ⟨_, rfl⟩; have HL : Hid ((0 : Nat) ≤ 0) := Lib.hid (Nat.le_refl _); clear hb1 k1
 go_wp2_with fail
 try rw [hb]
 refine (factLetters_any s0 hs32 _).mono ?_; rintro e w2 ⟨rfl, h2⟩; have HT2 := Lib.hid (HT1.out.quiet h2); rw [hb] at HT2; clear h2 HT1 q0 hb HB0 HB1
 go_wp2_with fail
 refine (HT2.out.ws _ (letT s0) rfl (by have := letT_len s0; (try simp only [List.length_append, List.length_cons, List.length_nil]); omega)).mono ?_; rintro e w3 ⟨rfl, h3⟩; have HT3 := Lib.hid h3; have HLL := Lib.hid (letT_len s0); have HL : Hid ((letT s0).length ≤ 5) := HLL; clear h3 HT2
 go_wp2_with fail
 refine (HT3.out.wb 62 (by have := HL.out; (try simp only [List.length_append, List.length_cons, List.length_nil]); omega)).mono ?_; rintro e w4 ⟨rfl, h4⟩; have HT4 := Lib.hid h4; clear h4 HT3; have q1 : w4.cell? ⟨w.heap.size, 1, none⟩ = some (.slice G gn gc) := HT4.out.cell 0 rfl 1
 go_wp2_with fail
 refine (codeText_impl G gn gc t.goal w4 (HG.out.up HT4.out.below)).mono ?_; rintro e w5 ⟨rfl, h5⟩; have HT5 := Lib.hid (HT4.out.quiet h5); clear h5 HT4 q1
 go_wp2_with fail
 refine (HT5.out.ws _ (codeT t.goal) rfl (by have := HL.out; have := codeT_len t.goal; (try simp only [List.length_append, List.length_cons, List.length_nil]); omega)).mono ?_; rintro e w6 ⟨rfl, h6⟩; have HT6 := Lib.hid h6; clear h6 HT5; have q2 : w6.cell? ⟨w.heap.size, 2, none⟩ = some (.slice G' n' c') := HT6.out.cell 0 rfl 2; obtain ⟨BT, hBT⟩ : ∃ x : List (Nat × TypeId × Array Value), [(w.heap.size, 26, #[.int .i64 (s0 : Int), .slice G gn gc, .slice G' n' c'])] = x := ⟨_, rfl⟩; rw [hBT] at HT6; clear hBT; have HT0 : Hid (TS w b (headT t ++ (t.deeds.take 0).flatMap deedT) BT w6) := Lib.hid (by have := HT6.out; rw [List.take_zero, List.flatMap_nil, List.append_nil, HHD.out]; simpa using this); go_wp2; clear HL HLL HT6 HHD q2
 go_loopw [21] (fun i wr => ∃ k : Nat, k ≤ n' ∧ i = .int .i64 k ∧ Hid (TS w b (headT t ++ (t.deeds.take k).flatMap deedT) BT wr)) (fun i _ => n' - (intOf i).toNat)
 case atStart => exact ⟨0, by omega, rfl, HT0⟩
 case round =>
  clear HT0; obtain ⟨k, hk, rfl, HT⟩ := hrel
  by_cases hlt : k < n'
  ·obtain ⟨db, off, d, rfl, hdb, hd, hda⟩ := HDS.out.get hlt; obtain ⟨An, nn, cn, p0, p1, p2, p3, hneed, hnn, -⟩ := hda; have r0 : wr.cell? ⟨db, off + k * 4, none⟩ = some (.slice An nn cn) := (bcells HT.out.below db _ hdb).trans p0; have r1 : wr.cell? ⟨db, off + k * 4 + 1, none⟩ = some (.int .i64 d.on) := (bcells HT.out.below db _ hdb).trans p1; have r2 : wr.cell? ⟨db, off + k * 4 + 2, none⟩ = some (.int .i64 d.off) := (bcells HT.out.below db _ hdb).trans p2; have r3 : wr.cell? ⟨db, off + k * 4 + 3, none⟩ = some (.int .i64 d.flip) := (bcells HT.out.below db _ hdb).trans p3; have HN := Lib.hid hneed; obtain ⟨⟨o1, o2⟩, ⟨f1, f2⟩, x1, x2⟩ := deed_sets (HDOK.out d (List.mem_of_getElem? hd)); have HSN := Lib.hid (deeds_snoc hd); have HDT : Hid (deedT d = [59] ++ codeT d.need ++ [58] ++ letT d.on.toNat ++ [44] ++ letT d.off.toNat ++ [44] ++ letT d.flip.toNat) := Lib.hid (by unfold deedT; simp); obtain ⟨don, hon⟩ : ∃ x, d.on = x := ⟨_, rfl⟩; obtain ⟨dof, hof⟩ : ∃ x, d.off = x := ⟨_, rfl⟩; obtain ⟨dfl, hfl⟩ : ∃ x, d.flip = x := ⟨_, rfl⟩; rw [hon] at r1 o1 o2 HDT; rw [hof] at r2 f1 f2 HDT; rw [hfl] at r3 x1 x2 HDT; obtain ⟨on, rfl⟩ := Int.eq_ofNat_of_zero_le o1; obtain ⟨of, rfl⟩ := Int.eq_ofNat_of_zero_le f1; obtain ⟨fl, rfl⟩ := Int.eq_ofNat_of_zero_le x1; have on32 : on < 32 := by omega
   have of32 : of < 32 := by omega
   have fl32 : fl < 32 := by omega
   simp only [Int.toNat_natCast] at HDT; obtain ⟨pre, hpre⟩ : ∃ x, headT t ++ (t.deeds.take k).flatMap deedT = x := ⟨_, rfl⟩; have HL : Hid (pre.length ≤ 2400) := Lib.hid (by rw [← hpre, List.length_append]; have := deedsT_len (t.deeds.take k); have := HHL.out; have : (t.deeds.take k).length ≤ k := List.length_take_le _ _; omega); have HP2 : Hid (headT t ++ (t.deeds.take (k + 1)).flatMap deedT = pre ++ deedT d) := Lib.hid (by rw [HSN.out, ← hpre, List.append_assoc]); have HT1 : Hid (TS w b pre ((wr.heap.size, 144, #[.slice An nn cn, .int .i64 (on : Int), .int .i64 (of : Int), .int .i64 (fl : Int)]) :: BT) (wr.alloc (.cells #[.slice An nn cn, .int .i64 (on : Int), .int .i64 (of : Int), .int .i64 (fl : Int)] 144))) := Lib.hid (by rw [← hpre]; exact HT.out.alloc _ _ (by decide)); obtain ⟨dg, hdg⟩ : ∃ x, wr.heap.size = x := ⟨_, rfl⟩; rw [hdg] at HT1; clear p0 p1 p2 p3 hneed hnn hd hpre HT HSN o1 o2 f1 f2 x1 x2 hon hof hfl
   go_wp2_with fail
   try rw [hdg]
   clear hdg; refine (HT1.out.wb 59 (by have := HL.out; (try simp only [List.length_append, List.length_cons, List.length_nil]); omega)).mono ?_; rintro e w2 ⟨rfl, h2⟩; have HT2 := Lib.hid h2; clear h2 HT1; have q0 : w2.cell? ⟨dg, 0, none⟩ = some (.slice An nn cn) := HT2.out.cell 0 rfl 0
   go_wp2_with fail
   refine (codeText_impl An nn cn d.need w2 (HN.out.up HT2.out.below)).mono ?_; rintro e w3 ⟨rfl, h3⟩; have HT3 := Lib.hid (HT2.out.quiet h3); clear h3 HT2 q0
   go_wp2_with fail
   refine (HT3.out.ws _ (codeT d.need) rfl (by have := HL.out; have := codeT_len d.need; (try simp only [List.length_append, List.length_cons, List.length_nil]); omega)).mono ?_; rintro e w4 ⟨rfl, h4⟩; have HT4 := Lib.hid h4; clear h4 HT3; have HL : Hid (pre.length + (codeT d.need).length ≤ 2600) := Lib.hid (by have := HL.out; have := codeT_len d.need; omega)
   go_wp2_with fail
   refine (HT4.out.wb 58 (by have := HL.out; (try simp only [List.length_append, List.length_cons, List.length_nil]); omega)).mono ?_; rintro e w5 ⟨rfl, h5⟩; have HT5 := Lib.hid h5; clear h5 HT4; have q1 : w5.cell? ⟨dg, 1, none⟩ = some (.int .i64 (on : Int)) := HT5.out.cell 0 rfl 1
   go_wp2_with fail
   refine (factLetters_any on on32 w5).mono ?_; rintro e w6 ⟨rfl, h6⟩; have HT6 := Lib.hid (HT5.out.quiet h6); clear h6 HT5 q1
   go_wp2_with fail
   refine (HT6.out.ws _ (letT on) rfl (by have := HL.out; have := letT_len on; (try simp only [List.length_append, List.length_cons, List.length_nil]); omega)).mono ?_; rintro e w7 ⟨rfl, h7⟩; have HT7 := Lib.hid h7; clear h7 HT6; have HL : Hid (pre.length + (codeT d.need).length + (letT on).length ≤ 2610) := Lib.hid (by have := HL.out; have := letT_len on; omega)
   go_wp2_with fail
   refine (HT7.out.wb 44 (by have := HL.out; (try simp only [List.length_append, List.length_cons, List.length_nil]); omega)).mono ?_; rintro e w8 ⟨rfl, h8⟩; have HT8 := Lib.hid h8; clear h8 HT7; have q2 : w8.cell? ⟨dg, 2, none⟩ = some (.int .i64 (of : Int)) := HT8.out.cell 0 rfl 2
   go_wp2_with fail
   refine (factLetters_any of of32 w8).mono ?_; rintro e w9 ⟨rfl, h9⟩; have HT9 := Lib.hid (HT8.out.quiet h9); clear h9 HT8 q2
   go_wp2_with fail
   refine (HT9.out.ws _ (letT of) rfl (by have := HL.out; have := letT_len of; (try simp only [List.length_append, List.length_cons, List.length_nil]); omega)).mono ?_; rintro e w10 ⟨rfl, h10⟩; have HT10 := Lib.hid h10; clear h10 HT9; have HL : Hid (pre.length + (codeT d.need).length + (letT on).length + (letT of).length ≤ 2620) := Lib.hid (by have := HL.out; have := letT_len of; omega)
   go_wp2_with fail
   refine (HT10.out.wb 44 (by have := HL.out; (try simp only [List.length_append, List.length_cons, List.length_nil]); omega)).mono ?_; rintro e w11 ⟨rfl, h11⟩; have HT11 := Lib.hid h11; clear h11 HT10; have q3 : w11.cell? ⟨dg, 3, none⟩ = some (.int .i64 (fl : Int)) := HT11.out.cell 0 rfl 3
   go_wp2_with fail
   refine (factLetters_any fl fl32 w11).mono ?_; rintro e w12 ⟨rfl, h12⟩; have HT12 := Lib.hid (HT11.out.quiet h12); clear h12 HT11 q3
   go_wp2_with fail
   refine (HT12.out.ws _ (letT fl) rfl (by have := HL.out; have := letT_len fl; (try simp only [List.length_append, List.length_cons, List.length_nil]); omega)).mono ?_; rintro e w13 ⟨rfl, h13⟩; have HT13 := Lib.hid h13; clear h13 HT12; have HTN : Hid (TS w b (headT t ++ (t.deeds.take (k + 1)).flatMap deedT) BT w13) := Lib.hid (by have := HT13.out.tl; rw [HP2.out, HDT.out]; simpa using this); clear HT13 HL; go_wp2
   go_roundw
   case rel => exact ⟨k + 1, by omega, by go_num, HTN⟩
   case measure => simp [intOf]; omega
  ·have hke : k = n' := by omega
   have HE : Hid (taskT t = headT t ++ (t.deeds.take k).flatMap deedT) := Lib.hid (by rw [HSP.out, hke, ← HDL.out, List.take_length]); clear hke
   go_wp2_with fail
   refine HT.out.done.mono ?_; rintro e w2 ⟨rfl, hb2⟩; have HB := Lib.hid hb2; clear hb2; go_wp2; go_ret; exact ⟨ret_ba (by rw [HE.out]), HB.out⟩
end Go.Proofs.YtkmcengmglgdeaaGreatDoor


namespace Go.Proofs.YtkmcengmglgdeaaGreatDoor
set_option linter.unusedVariables false
set_option linter.unusedSimpArgs false
open Go.ChangeShapes Go.WideShapes Go.ChangeAt Go.RowKit

set_option maxRecDepth 100000 in
set_option maxHeartbeats 1000000 in
theorem reached_spec (v : Value) (t : TaskD) (w : World) (h : RdT w w.heap.size v t) (hok : taskOk t = true) :
  Calls Tryz.prog 106 #[v] w fun e w' => e = .returned (.int .i64 (mset (fwd t.deeds (only t.start.toNat) 32) 32 : Nat)) ∧ Below w.heap.size w w' := by
 have h' := h; obtain ⟨G, gn, gc, G', n', c', rfl, hg, hgs, hds, hst⟩ := h; have HT := Lib.hid h'; have HOK := Lib.hid hok; have HS0 := Lib.hid ((St.refl w).alloc #[.int .i64 t.start, .slice G gn gc, .slice G' n' c'] 26); have hs01 := (taskOk_parts t hok).1; obtain ⟨st, hst'⟩ : ∃ x, t.start = x := ⟨_, rfl⟩; rw [hst'] at hs01 HT HS0 ⊢
 obtain ⟨s0, rfl⟩ := Int.eq_ofNat_of_zero_le hs01.1; have hs32 : s0 < 32 := by omega
 rw [Int.toNat_natCast]; have hpw0 := wrap_pow s0 (by omega); have hpwi : IntKind.i64.wrap ((2 : Int) ^ s0) = 2 ^ s0 := IntWalk.i64_in _ (by have := pow_le_int s0 31 (by omega); have : (0 : Int) < 2 ^ s0 := Int.pow_pos (by omega); omega); obtain ⟨R, hR⟩ : ∃ R, mset (fwd t.deeds (only s0) 32) 32 = R := ⟨_, rfl⟩; have HR := Bx.mk hR; rw [hR]
 have hP0 : (2 : Int) ^ s0 = ((mset (fwd t.deeds (only s0) 0) 32 : Nat) : Int) := by
  rw [show mset (fwd t.deeds (only s0) 0) 32 = mset (only s0) 32 from rfl, mset_only hs32]; simp
 have HP0 := Lib.hid hP0; clear h' hg hgs hds hst hok hst' hs01 hR hP0; go_enter Tryz.func106, Tryz.ntmps106
 go_wp2_with fail
 refine (taskValid_spec _ t _ (HT.out.up HS0.out.below)).mono ?_; rw [HOK.out]; rintro e w1 ⟨rfl, hb1⟩; have HS1 := Lib.hid (HS0.out.quiet hb1); clear hb1 HS0; have q1 := HS1.out.cells 0 rfl; go_wp2
 try rw [HP0.out]
 clear hpw0 hpwi
 go_loopw [3] (fun sv wr => ∃ m M : Nat, m ≤ 32 ∧ sv = .int .i64 M ∧ Bx (M = mset (fwd t.deeds (only s0) m) 32) ∧ Bx (m ≤ cnt (fwd t.deeds (only s0) m) 32) ∧ M < 4294967296 ∧ St w wr [rBlk w.heap.size 26 #[.int .i64 (s0 : Int), .slice G gn gc, .slice G' n' c']]) (fun sv _ => 4294967296 - (intOf sv).toNat)
 case atStart => exact ⟨0, _, by omega, rfl, Bx.mk rfl, Bx.mk (Nat.zero_le _), mset32_lt _, HS1.out⟩
 case round =>
  clear HS1 q1; obtain ⟨m, M, hm, rfl, HM, HC, hM, S⟩ := hrel; have HS := Lib.hid S; clear S; have q1 := HS.out.cells 0 rfl
  go_wp2_with fail
  refine (statesNext_spec _ t M _ (HT.out.up HS.out.below) HOK.out hM).mono ?_; obtain ⟨N, hN⟩ : ∃ N, mset (fwdP t.deeds (setP M)) 32 = N := ⟨_, rfl⟩; have hNl : N < 4294967296 := by rw [← hN]; exact mset32_lt _
  obtain ⟨M2, hM2⟩ : ∃ M2, mset (fwd t.deeds (only s0) (m + 1)) 32 = M2 := ⟨_, rfl⟩; have HOR : Bx (M ||| N = M2) := Bx.mk (by rw [← hM2, ← hN, HM.out, fwd_set, mset_or]; rfl); have hle : M ≤ M2 := by rw [← hM2, HM.out]; exact fwd_le
  have hM2l : M2 < 4294967296 := by rw [← hM2]; exact mset32_lt _
  have HM2 := Bx.mk hM2; rw [hN]; rintro e w3 ⟨rfl, hb3⟩; have HS3 := Lib.hid (HS.out.quiet hb3); clear hb3 hN hM2 q1
  go_wp2_with fail
  refine (l1Either_any (M : Int) (N : Int) (by omega) (by omega) (by omega) (by omega) _).mono ?_; rw [Int.toNat_natCast, Int.toNat_natCast, HOR.out]; rintro e w4 ⟨rfl, rfl⟩
  by_cases he : M2 = M
  ·have HF : Bx (M = R) := Bx.mk (by
    rw [← HR.out, HM.out]
    exact fwd_end hm (by rw [HM2.out, ← HM.out]; exact he))
   subst he; go_wp2; go_ret; exact ⟨ret_int (by rw [HF.out]), HS3.out.below⟩
  ·have hne : ((M2 : Int) == (M : Int)) = false := by simp; omega
   have HC2 : Bx (m + 1 ≤ cnt (fwd t.deeds (only s0) (m + 1)) 32) := Bx.mk (fwd_grow (by rw [HM2.out, ← HM.out]; exact he) HC.out); have hm2 : m + 1 ≤ 32 := by have := cnt_le (fwd t.deeds (only s0) (m + 1)) 32; have := HC2.out; omega
   have hlt : M < M2 := by omega
   clear he hle; go_wp2
   go_roundw
   case rel => exact ⟨m + 1, M2, hm2, rfl, Bx.mk HM2.out.symm, HC2, hM2l, HS3.out⟩
   case measure => simp [intOf]; omega
end Go.Proofs.YtkmcengmglgdeaaGreatDoor
