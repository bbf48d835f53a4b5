/- l1Cut of the reference: rows of strings of the call's own. -/
import Derived.Test.YtgnmlpklojgpfaaSActR
import Derived.Test.YtgnmlpklojgpfaaSBehind
import Derived.Test.YtgnmlpklojgpfaaSFront
namespace Go.Proofs.Ytgnmlpklojgpfaa
set_option linter.unusedVariables false
set_option linter.unusedSimpArgs false
open Go.ChangeShapes Go.WideShapes Go.ChangeAt Go.RowKit

def strs (ws : List (List UInt8)) : List Value := ws.map fun l => .string ⟨l.toArray⟩
theorem strs_app (ws us : List (List UInt8)) : strs (ws ++ us) = strs ws ++ strs us := by simp [strs]
theorem elStr : ElemT Try.prog 57 9 (.string .empty) 1 16 := ⟨Try.underlying57, info_parts (by kernel_rfl), rfl, by omega⟩
/-- a row of strings of the call's own -/
def rStrs (v : Value) (ws : List (List UInt8)) : HRes := rRow 9 1 v ws.length (strs ws)
theorem St.addStr {w wr w' : World} {L : List HRes} {v v' : Value} {ws : List (List UInt8)} {l : List UInt8} {cs : Array Value} (S : St w wr (rStrs v ws :: L))
    (hown : w'.ownsRow w.heap.size 9 1 v' (ws.length + 1) (strs ws ++ [.string ⟨l.toArray⟩])) (hg : (wr.alloc (.cells cs 9)).grownBy w' v.ownBlock)
    (hat : v'.ownBlock = v.ownBlock ∨ v'.ownBlock = some (wr.alloc (.cells cs 9)).heap.size) : St w w' (rStrs v' (ws ++ [l]) :: L) := by
  have := ((S.alloc1 cs 9).rid 1 rfl).app 0 rfl hown hg hat
  have e : rStrs v' (ws ++ [l]) = rRow 9 1 v' (ws.length + 1) (strs ws ++ [.string ⟨l.toArray⟩]) := by unfold rStrs; rw [strs_app, List.length_append]; rfl
  rw [e]
  exact this
theorem cutW_here {c : UInt8} {s : ByteArray} {k : Nat} (h : k < s.size) (hc : s[k].toNat = c.toNat) (cur : List UInt8) : cutW c cur (s.data.toList.drop k) = cur :: cutW c [] (s.data.toList.drop (k + 1)) := by
  rw [drop_at s k h]
  simp only [cutW]
  rw [if_pos (UInt8.toNat_inj.1 hc)]
theorem cutW_on {c : UInt8} {s : ByteArray} {k : Nat} (h : k < s.size) (hc : s[k].toNat ≠ c.toNat) (cur : List UInt8) : cutW c cur (s.data.toList.drop k) = cutW c (cur ++ [s[k]]) (s.data.toList.drop (k + 1)) := by
  rw [drop_at s k h]
  simp only [cutW]
  rw [if_neg (fun e => hc (by rw [e]))]
theorem cutW_end {c : UInt8} {s : ByteArray} {k : Nat} (h : s.size ≤ k) (cur : List UInt8) : cutW c cur (s.data.toList.drop k) = [cur] := by
  rw [drop_end s k h]; rfl
theorem piece_snoc {s : ByteArray} {f k : Nat} (hf : f ≤ k) (h : k < s.size) : (s.data.toList.drop f).take (k + 1 - f) = (s.data.toList.drop f).take (k - f) ++ [s[k]] := by
  rw [show k + 1 - f = (k - f) + 1 by omega, List.take_succ_eq_append_getElem (by rw [List.length_drop, ← Lib.size_eq]; omega)]
  congr 2
  rw [List.getElem_drop]
  have : f + (k - f) = k := by omega
  simp only [this]
  rfl
set_option maxRecDepth 100000 in
set_option maxHeartbeats 1000000 in
theorem l1Cut_st (s : ByteArray) (c : UInt8) (w : World) (hs : s.size ≤ 1099511627776) :
    Calls Try.prog 47 #[.string s, .int .u8 c.toNat] w fun e w' => ∃ v, e = .returned v ∧ St w w' [rStrs v (cutW c [] s.data.toList)] := by
  obtain ⟨cn, hcn⟩ : ∃ cn : Nat, c.toNat = cn := ⟨_, rfl⟩
  have HC := Lib.hid hcn
  rw [hcn]
  clear hcn
  have HS0 : Hid (St w (w.alloc (.cells #[] 9)) [rStrs (.slice (some ⟨w.heap.size, 0, none⟩) 0 0) []]) := Lib.hid ((St.new1 w #[] 9).see fun F hF _ => by
    obtain ⟨hb, rfl⟩ := hF
    exact ⟨World.ownsRow_lit w #[] 0 (Nat.zero_le _) (by unfold maxLen; omega) rfl, rfl⟩)
  go_enter Try.func47, Try.ntmps47
  go_wp2
  go_loopw [5, 6, 7] (fun o f i wr => ∃ (k fr : Nat) (ws : List (List UInt8)), k ≤ s.size ∧ fr ≤ k ∧ ws.length ≤ k ∧ i = .int .i64 k ∧ f = .int .i64 fr ∧ Hid (cutW c [] s.data.toList = ws ++ cutW c ((s.data.toList.drop fr).take (k - fr)) (s.data.toList.drop k)) ∧ St w wr [rStrs o ws]) (fun _ _ i _ => s.size - (intOf i).toNat)
  case atStart => exact ⟨0, 0, [], by omega, by omega, by simp, rfl, rfl, Lib.hid (by simp), HS0.out⟩
  case round =>
    clear HS0
    obtain ⟨k, fr, ws, hk, hfk, hwl, rfl, rfl, hcut, S⟩ := hrel
    have HS := Lib.hid S
    clear S
    have HO := Lib.hid (HS.out.row 0 rfl)
    have hwsz := HS.out.size
    by_cases hlt : k < s.size
    · have hb : s[k].toNat < 256 := UInt8.toNat_lt _
      by_cases hc : s[k].toNat = cn
      · have HX : Hid (s.extract fr k = ⟨((s.data.toList.drop fr).take (k - fr)).toArray⟩) := Lib.hid (Lib.extract_eq s fr k)
        have HW : Hid (cutW c [] s.data.toList = (ws ++ [(s.data.toList.drop fr).take (k - fr)]) ++ cutW c ((s.data.toList.drop (k + 1)).take (k + 1 - (k + 1))) (s.data.toList.drop (k + 1))) := Lib.hid (by
          rw [hcut.out, cutW_here hlt (by rw [hc, HC.out])]; simp)
        have hc1 : ((s[k].toNat : Int) == (cn : Int)) = true := by simp [hc]
        have c1 : (0 : Int) ≤ (fr : Int) := by omega
        have c2 : (fr : Int) ≤ (k : Int) := by omega
        have c3 : (k : Int) ≤ (s.size : Int) := by omega
        clear hc
        go_wp2_with (at_builtin; refine wp_app elStr rfl (.tmp 20) (.tmp 25) rfl w.heap.size _ _ _ rfl (HO.out.alloc _) _ _ 1 1 [.string (s.extract fr k)] rfl (RdRow.new wr [.string (s.extract fr k)] 9 1 1 rfl (by unfold maxLen; omega)) (by simp [Value.oneCell']) (by omega) (by omega) (by simp; omega) ?_; intro v2 w2 hown2 hg2 hat2; have HS2 := Lib.hid (HS.out.addStr (l := (s.data.toList.drop fr).take (k - fr)) (by rw [← HX.out]; exact hown2) hg2 hat2); clear hown2 hg2 hat2)
        go_wp2
        go_roundw
        case rel => exact ⟨k + 1, k + 1, _, by omega, by omega, by simp; omega, by go_num, by go_num, HW, HS2.out⟩
        case measure => simp [intOf]; omega
      · have HW : Hid (cutW c [] s.data.toList = ws ++ cutW c ((s.data.toList.drop fr).take (k + 1 - fr)) (s.data.toList.drop (k + 1))) := Lib.hid (by
          rw [hcut.out, cutW_on hlt (by rw [HC.out]; exact hc), piece_snoc hfk hlt])
        have hc1 : ((s[k].toNat : Int) == (cn : Int)) = false := by simp; omega
        clear hc
        go_wp2
        go_roundw
        case rel => exact ⟨k + 1, fr, ws, by omega, by omega, by omega, by go_num, rfl, HW, HS.out⟩
        case measure => simp [intOf]; omega
    · have hke : k = s.size := by omega
      have HX : Hid (s.extract fr s.size = ⟨((s.data.toList.drop fr).take (k - fr)).toArray⟩) := Lib.hid (by rw [hke]; exact Lib.extract_eq s fr s.size)
      have HW : Hid (cutW c [] s.data.toList = ws ++ [(s.data.toList.drop fr).take (k - fr)]) := Lib.hid (by
        rw [hcut.out, cutW_end (by omega)])
      have c1 : (0 : Int) ≤ (fr : Int) := by omega
      have c3 : (fr : Int) ≤ (s.size : Int) := by omega
      clear hke
      go_wp2_with (at_builtin; refine wp_app elStr rfl (.tmp 29) (.tmp 33) rfl w.heap.size _ _ _ rfl (HO.out.alloc _) _ _ 1 1 [.string (s.extract fr s.size)] rfl (RdRow.new wr [.string (s.extract fr s.size)] 9 1 1 rfl (by unfold maxLen; omega)) (by simp [Value.oneCell']) (by omega) (by omega) (by simp; omega) ?_; intro v2 w2 hown2 hg2 hat2; have HS2 := Lib.hid (HS.out.addStr (l := (s.data.toList.drop fr).take (k - fr)) (by rw [← HX.out]; exact hown2) hg2 hat2); clear hown2 hg2 hat2)
      go_wp2
      go_ret
      exact ⟨_, rfl, by rw [HW.out]; exact HS2.out⟩
end Go.Proofs.Ytgnmlpklojgpfaa
