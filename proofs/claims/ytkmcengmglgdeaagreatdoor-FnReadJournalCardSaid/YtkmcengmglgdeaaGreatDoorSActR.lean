/- Joined texts: ActR, CutS. -/
import Derived.Test.YtkmcengmglgdeaaGreatDoorSActT
import Derived.ShutString
import Derived.Test.YtkmcengmglgdeaaGreatDoorSBehind
import Derived.Test.YtkmcengmglgdeaaGreatDoorSDraw
/- ReadAct of the program. -/
namespace Go.Proofs.YtkmcengmglgdeaaGreatDoor
set_option linter.unusedVariables false
set_option linter.unusedSimpArgs false
open Go.ChangeShapes Go.WideShapes Go.ChangeAt Go.RowKit

def actV (o : Option (Int × Int)) : Value := .agg #[.int .i64 (o.getD (0, 0)).1, .int .i64 (o.getD (0, 0)).2]
def ActR (o : Option (Int × Int)) (e : Ending) : Prop := e = .returned (.tuple #[actV o, .bool o.isSome])
theorem ba_eq {s : ByteArray} {l : List UInt8} (h : s.data.toList = l) : s = ⟨l.toArray⟩ := ba_of h
theorem readA_do' {s : List UInt8} (h1 : s ≠ shortW) (h2 : s ≠ endW) (h3 : (doW ++ [32]).isPrefixOf s = true) : readA s = (readN (s.drop 3)).map fun (n : Nat) => ((0 : Int), (n : Int)) := by
 unfold readA; rw [if_neg h1, if_neg h2, if_pos h3]
theorem readA_back' {s : List UInt8} (h1 : s ≠ shortW) (h2 : s ≠ endW) (h3 : (doW ++ [32]).isPrefixOf s = false) (h4 : (backW ++ [32]).isPrefixOf s = true) : readA s = (readN (s.drop 5)).map fun (n : Nat) => ((1 : Int), (n : Int)) := by
 unfold readA; rw [if_neg h1, if_neg h2, if_neg (by rw [h3]; simp), if_pos h4]
theorem readA_none' {s : List UInt8} (h1 : s ≠ shortW) (h2 : s ≠ endW) (h3 : (doW ++ [32]).isPrefixOf s = false) (h4 : (backW ++ [32]).isPrefixOf s = false) : readA s = none := by
 unfold readA; rw [if_neg h1, if_neg h2, if_neg (by rw [h3]; simp), if_neg (by rw [h4]; simp)]
theorem cutPrefix_yes (s p : ByteArray) (t : List UInt8) (w : World) (h : s.data.toList = p.data.toList ++ t) :
  Calls Tryz.prog 108 #[.string s, .string p] w fun e w' => e = .returned (.tuple #[.string ⟨t.toArray⟩, .bool true]) ∧ w = w' := by
 have h1 : Lib.hasPrefix s.data.toList p.data.toList = true := by
  unfold Lib.hasPrefix; rw [List.isPrefixOf_iff_prefix]; exact ⟨t, h.symm⟩
 have h2 : Lib.trimPrefix s.data.toList p.data.toList = t := by
  unfold Lib.trimPrefix; rw [if_pos h1, h]; simp
 refine (cutPrefix_any s p w).mono ?_
 rintro e w' ⟨rfl, rfl⟩
 rw [h1, h2]
 exact ⟨rfl, rfl⟩
theorem cutPrefix_no (s p : ByteArray) (w : World) (h : p.data.toList.isPrefixOf s.data.toList = false) :
  Calls Tryz.prog 108 #[.string s, .string p] w fun e w' => e = .returned (.tuple #[.string s, .bool false]) ∧ w = w' := by
 have h1 : Lib.hasPrefix s.data.toList p.data.toList = false := h
 have h2 : Lib.trimPrefix s.data.toList p.data.toList = s.data.toList := by
  unfold Lib.trimPrefix; rw [if_neg (by rw [h1]; simp)]
 refine (cutPrefix_any s p w).mono ?_
 rintro e w' ⟨rfl, rfl⟩
 rw [h1, h2, Lib.mk_data]
 exact ⟨rfl, rfl⟩
set_option maxRecDepth 100000 in
set_option maxHeartbeats 1000000 in
theorem readAct_impl (s : ByteArray) (w : World) (hs : s.size ≤ 9223372036854775807) :
  Calls Tryz.prog 46 #[.string s] w fun e w' => ActR (readA s.data.toList) e ∧ Below w.heap.size w w' := by
 by_cases h1 : s.data.toList = shortW
 ·obtain rfl := ba_eq h1
  clear h1 hs
  go_enter Tryz.func46, Tryz.ntmps46
  go_wp2
  exact bodyPost_ret (v := .tuple #[.agg #[.int .i64 2, .int .i64 0], .bool true]) (by simp [results, Tryz.results46, go_sem]) rfl ⟨rfl, (Below.refl _ _).alloc (Nat.le_refl _) _⟩
 by_cases h2 : s.data.toList = endW
 ·obtain rfl := ba_eq h2
  clear h1 h2 hs
  go_enter Tryz.func46, Tryz.ntmps46
  go_wp2
  exact bodyPost_ret (v := .tuple #[.agg #[.int .i64 3, .int .i64 0], .bool true]) (by simp [results, Tryz.results46, go_sem]) rfl ⟨rfl, (Below.refl _ _).alloc (Nat.le_refl _) _⟩
 have b1 : (s.toList == [115, 104, 111, 114, 116]) = false := by
  rw [Bool.eq_false_iff, Lib.toList_data]; intro h; exact h1 (beq_iff_eq.1 h)
 have b2 : (s.toList == [101, 110, 100]) = false := by
  rw [Bool.eq_false_iff, Lib.toList_data]; intro h; exact h2 (beq_iff_eq.1 h)
 have hsl := Lib.size_eq s
 cases h3 : (doW ++ [32]).isPrefixOf s.data.toList with
 | true =>
  have HR := Lib.hid (readA_do' h1 h2 h3)
  have HP := Lib.hid (pre_drop h3)
  have HT : Hid ((⟨(s.data.toList.drop 3).toArray⟩ : ByteArray).size ≤ 9223372036854775807) := Lib.hid (by rw [size_of_list, List.length_drop]; omega)
  clear h1 h2 h3 hsl hs
  go_enter Tryz.func46, Tryz.ntmps46
  go_wp2_with fail
  refine (cutPrefix_yes s _ (s.data.toList.drop 3) _ HP.out).mono ?_
  rintro e w' ⟨rfl, rfl⟩
  go_wp2_with fail
  refine (readNumber_any ⟨(s.data.toList.drop 3).toArray⟩ 2 _ (by omega) HT.out).mono ?_
  rintro e w' ⟨hn, rfl⟩
  unfold NumR at hn
  rw [ba_data, rdNum_readN] at hn
  cases h4 : readN (s.data.toList.drop 3) with
  | none =>
   rw [h4] at hn HR
   subst hn
   clear h4
   go_wp2
   exact bodyPost_ret (v := .tuple #[.agg #[.int .i64 0, .int .i64 0], .bool false]) (by simp [results, Tryz.results46, go_sem]) rfl ⟨by rw [HR.out]; rfl, (Below.refl _ _).alloc (Nat.le_refl _) _⟩
  | some m =>
   rw [h4] at hn HR
   subst hn
   clear h4
   go_wp2
   exact bodyPost_ret (v := .tuple #[.agg #[.int .i64 0, .int .i64 m], .bool true]) (by simp [results, Tryz.results46, go_sem]) rfl ⟨by rw [HR.out]; rfl, (Below.refl _ _).alloc (Nat.le_refl _) _⟩
 | false =>
  cases h5 : (backW ++ [32]).isPrefixOf s.data.toList with
  | true =>
   have HR := Lib.hid (readA_back' h1 h2 h3 h5)
   have HP := Lib.hid (pre_drop h5)
   have HN := Lib.hid h3
   have HT : Hid ((⟨(s.data.toList.drop 5).toArray⟩ : ByteArray).size ≤ 9223372036854775807) := Lib.hid (by rw [size_of_list, List.length_drop]; omega)
   clear h1 h2 h3 h5 hsl hs
   go_enter Tryz.func46, Tryz.ntmps46
   go_wp2_with fail
   refine (cutPrefix_no s _ _ HN.out).mono ?_
   rintro e w' ⟨rfl, rfl⟩
   go_wp2_with fail
   refine (cutPrefix_yes s _ (s.data.toList.drop 5) _ HP.out).mono ?_
   rintro e w' ⟨rfl, rfl⟩
   go_wp2_with fail
   refine (readNumber_any ⟨(s.data.toList.drop 5).toArray⟩ 2 _ (by omega) HT.out).mono ?_
   rintro e w' ⟨hn, rfl⟩
   unfold NumR at hn
   rw [ba_data, rdNum_readN] at hn
   cases h4 : readN (s.data.toList.drop 5) with
   | none =>
    rw [h4] at hn HR
    subst hn
    clear h4
    go_wp2
    exact bodyPost_ret (v := .tuple #[.agg #[.int .i64 0, .int .i64 0], .bool false]) (by simp [results, Tryz.results46, go_sem]) rfl ⟨by rw [HR.out]; rfl, (Below.refl _ _).alloc (Nat.le_refl _) _⟩
   | some m =>
    rw [h4] at hn HR
    subst hn
    clear h4
    go_wp2
    exact bodyPost_ret (v := .tuple #[.agg #[.int .i64 1, .int .i64 m], .bool true]) (by simp [results, Tryz.results46, go_sem]) rfl ⟨by rw [HR.out]; rfl, (Below.refl _ _).alloc (Nat.le_refl _) _⟩
  | false =>
   have HR := Lib.hid (readA_none' h1 h2 h3 h5)
   have HN := Lib.hid h3
   have HN' := Lib.hid h5
   clear h1 h2 h3 h5 hsl hs
   go_enter Tryz.func46, Tryz.ntmps46
   go_wp2_with fail
   refine (cutPrefix_no s _ _ HN.out).mono ?_
   rintro e w' ⟨rfl, rfl⟩
   go_wp2_with fail
   refine (cutPrefix_no s _ _ HN'.out).mono ?_
   rintro e w' ⟨rfl, rfl⟩
   go_wp2
   exact bodyPost_ret (v := .tuple #[.agg #[.int .i64 0, .int .i64 0], .bool false]) (by simp [results, Tryz.results46, go_sem]) rfl ⟨by rw [HR.out]; rfl, (Below.refl _ _).alloc (Nat.le_refl _) _⟩
end Go.Proofs.YtkmcengmglgdeaaGreatDoor

/- l1Cut of the reference: rows of strings of the call's own. -/
namespace Go.Proofs.YtkmcengmglgdeaaGreatDoor
set_option linter.unusedVariables false
set_option linter.unusedSimpArgs false
open Go.ChangeShapes Go.WideShapes Go.ChangeAt Go.RowKit

def strs (ws : List (List UInt8)) : List Value := ws.map fun l => .string ⟨l.toArray⟩
theorem strs_app (ws us : List (List UInt8)) : strs (ws ++ us) = strs ws ++ strs us := by simp [strs]
theorem elStr : ElemT Tryz.prog 43 9 (.string .empty) 1 16 := ⟨Tryz.underlying43, info_parts (by kernel_rfl), rfl, by omega⟩
/-- a row of strings of the call's own -/
def rStrs (v : Value) (ws : List (List UInt8)) : HRes := rRow 9 1 v ws.length (strs ws)
theorem St.addStr {w wr w' : World} {L : List HRes} {v v' : Value} {ws : List (List UInt8)} {l : List UInt8} {cs : Array Value} (S : St w wr (rStrs v ws :: L))
  (hown : w'.ownsRow w.heap.size 9 1 v' (ws.length + 1) (strs ws ++ [.string ⟨l.toArray⟩])) (hg : (wr.alloc (.cells cs 9)).grownBy w' v.ownBlock)
  (hat : v'.ownBlock = v.ownBlock ∨ v'.ownBlock = some (wr.alloc (.cells cs 9)).heap.size) : St w w' (rStrs v' (ws ++ [l]) :: L) := by
 have := ((S.alloc1 cs 9).rid 1 rfl).app 0 rfl hown hg hat
 have e : rStrs v' (ws ++ [l]) = rRow 9 1 v' (ws.length + 1) (strs ws ++ [.string ⟨l.toArray⟩]) := by unfold rStrs; rw [strs_app, List.length_append]; rfl
 rw [e]
 exact this
theorem cutW_here {c : UInt8} {s : ByteArray} {k : Nat} (h : k < s.size) (hc : s[k].toNat = c.toNat) (cur : List UInt8) : cutW c cur (s.data.toList.drop k) = cur :: cutW c [] (s.data.toList.drop (k + 1)) := by
 rw [drop_at s k h]
 simp only [cutW]
 rw [if_pos (UInt8.toNat_inj.1 hc)]
theorem cutW_on {c : UInt8} {s : ByteArray} {k : Nat} (h : k < s.size) (hc : s[k].toNat ≠ c.toNat) (cur : List UInt8) : cutW c cur (s.data.toList.drop k) = cutW c (cur ++ [s[k]]) (s.data.toList.drop (k + 1)) := by
 rw [drop_at s k h]
 simp only [cutW]
 rw [if_neg (fun e => hc (by rw [e]))]
theorem cutW_end {c : UInt8} {s : ByteArray} {k : Nat} (h : s.size ≤ k) (cur : List UInt8) : cutW c cur (s.data.toList.drop k) = [cur] := by
 rw [drop_end s k h]; rfl
theorem piece_snoc {s : ByteArray} {f k : Nat} (hf : f ≤ k) (h : k < s.size) : (s.data.toList.drop f).take (k + 1 - f) = (s.data.toList.drop f).take (k - f) ++ [s[k]] := by
 rw [show k + 1 - f = (k - f) + 1 by omega, List.take_succ_eq_append_getElem (by rw [List.length_drop, ← Lib.size_eq]; omega)]
 congr 2
 rw [List.getElem_drop]
 have : f + (k - f) = k := by omega
 simp only [this]
 rfl
set_option maxRecDepth 100000 in
set_option maxHeartbeats 1000000 in
theorem l1Cut_st (s : ByteArray) (c : UInt8) (w : World) (hs : s.size ≤ 1099511627776) :
  Calls Tryz.prog 119 #[.string s, .int .u8 c.toNat] w fun e w' => ∃ v, e = .returned v ∧ St w w' [rStrs v (cutW c [] s.data.toList)] := by
 obtain ⟨cn, hcn⟩ : ∃ cn : Nat, c.toNat = cn := ⟨_, rfl⟩
 have HC := Lib.hid hcn
 rw [hcn]
 clear hcn
 have HS0 : Hid (St w (w.alloc (.cells #[] 9)) [rStrs (.slice (some ⟨w.heap.size, 0, none⟩) 0 0) []]) := Lib.hid ((St.new1 w #[] 9).see fun F hF _ => by
  obtain ⟨hb, rfl⟩ := hF
  exact ⟨World.ownsRow_lit w #[] 0 (Nat.zero_le _) (by unfold maxLen; omega) rfl, rfl⟩)
 go_enter Tryz.func119, Tryz.ntmps119
 go_wp2
 go_loopw [5, 6, 7] (fun o f i wr => ∃ (k fr : Nat) (ws : List (List UInt8)), k ≤ s.size ∧ fr ≤ k ∧ ws.length ≤ k ∧ i = .int .i64 k ∧ f = .int .i64 fr ∧ Hid (cutW c [] s.data.toList = ws ++ cutW c ((s.data.toList.drop fr).take (k - fr)) (s.data.toList.drop k)) ∧ St w wr [rStrs o ws]) (fun _ _ i _ => s.size - (intOf i).toNat)
 case atStart => exact ⟨0, 0, [], by omega, by omega, by simp, rfl, rfl, Lib.hid (by simp), HS0.out⟩
 case round =>
  clear HS0
  obtain ⟨k, fr, ws, hk, hfk, hwl, rfl, rfl, hcut, S⟩ := hrel
  have HS := Lib.hid S
  clear S
  have HO := Lib.hid (HS.out.row 0 rfl)
  have hwsz := HS.out.size
  by_cases hlt : k < s.size
  ·have hb : s[k].toNat < 256 := UInt8.toNat_lt _
   by_cases hc : s[k].toNat = cn
   ·have HX : Hid (s.extract fr k = ⟨((s.data.toList.drop fr).take (k - fr)).toArray⟩) := Lib.hid (Lib.extract_eq s fr k)
    have HW : Hid (cutW c [] s.data.toList = (ws ++ [(s.data.toList.drop fr).take (k - fr)]) ++ cutW c ((s.data.toList.drop (k + 1)).take (k + 1 - (k + 1))) (s.data.toList.drop (k + 1))) := Lib.hid (by
     rw [hcut.out, cutW_here hlt (by rw [hc, HC.out])]; simp)
    have hc1 : ((s[k].toNat : Int) == (cn : Int)) = true := by simp [hc]
    have c1 : (0 : Int) ≤ (fr : Int) := by omega
    have c2 : (fr : Int) ≤ (k : Int) := by omega
    have c3 : (k : Int) ≤ (s.size : Int) := by omega
    clear hc
    go_wp2_with (at_builtin; refine wp_app elStr rfl (.tmp 20) (.tmp 25) rfl w.heap.size _ _ _ rfl (HO.out.alloc _) _ _ 1 1 [.string (s.extract fr k)] rfl (RdRow.new wr [.string (s.extract fr k)] 9 1 1 rfl (by unfold maxLen; omega)) (by simp [Value.oneCell']) (by omega) (by omega) (by simp; omega) ?_; intro v2 w2 hown2 hg2 hat2; have HS2 := Lib.hid (HS.out.addStr (l := (s.data.toList.drop fr).take (k - fr)) (by rw [← HX.out]; exact hown2) hg2 hat2); clear hown2 hg2 hat2)
    go_wp2
    go_roundw
    case rel => exact ⟨k + 1, k + 1, _, by omega, by omega, by simp; omega, by go_num, by go_num, HW, HS2.out⟩
    case measure => simp [intOf]; omega
   ·have HW : Hid (cutW c [] s.data.toList = ws ++ cutW c ((s.data.toList.drop fr).take (k + 1 - fr)) (s.data.toList.drop (k + 1))) := Lib.hid (by
     rw [hcut.out, cutW_on hlt (by rw [HC.out]; exact hc), piece_snoc hfk hlt])
    have hc1 : ((s[k].toNat : Int) == (cn : Int)) = false := by simp; omega
    clear hc
    go_wp2
    go_roundw
    case rel => exact ⟨k + 1, fr, ws, by omega, by omega, by omega, by go_num, rfl, HW, HS.out⟩
    case measure => simp [intOf]; omega
  ·have hke : k = s.size := by omega
   have HX : Hid (s.extract fr s.size = ⟨((s.data.toList.drop fr).take (k - fr)).toArray⟩) := Lib.hid (by rw [hke]; exact Lib.extract_eq s fr s.size)
   have HW : Hid (cutW c [] s.data.toList = ws ++ [(s.data.toList.drop fr).take (k - fr)]) := Lib.hid (by
    rw [hcut.out, cutW_end (by omega)])
   have c1 : (0 : Int) ≤ (fr : Int) := by omega
   have c3 : (fr : Int) ≤ (s.size : Int) := by omega
   clear hke
   go_wp2_with (at_builtin; refine wp_app elStr rfl (.tmp 29) (.tmp 33) rfl w.heap.size _ _ _ rfl (HO.out.alloc _) _ _ 1 1 [.string (s.extract fr s.size)] rfl (RdRow.new wr [.string (s.extract fr s.size)] 9 1 1 rfl (by unfold maxLen; omega)) (by simp [Value.oneCell']) (by omega) (by omega) (by simp; omega) ?_; intro v2 w2 hown2 hg2 hat2; have HS2 := Lib.hid (HS.out.addStr (l := (s.data.toList.drop fr).take (k - fr)) (by rw [← HX.out]; exact hown2) hg2 hat2); clear hown2 hg2 hat2)
   go_wp2
   go_ret
   exact ⟨_, rfl, by rw [HW.out]; exact HS2.out⟩
end Go.Proofs.YtkmcengmglgdeaaGreatDoor
