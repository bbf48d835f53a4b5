/- ReadJournal of the program and of the reference. -/
import Derived.Test.YtadlfffhddpajaaDoorSJourP
namespace Go.Proofs.YtadlfffhddpajaaDoor
set_option linter.unusedVariables false
set_option linter.unusedSimpArgs false
open Go.ChangeShapes Go.WideShapes Go.ChangeAt Go.RowKit

theorem St.addAct {w wr w' : World} {L : List HRes} {v v' : Value} {aa : List ActD} {a : ActD} {cs : Array Value} (S : St w wr (rActs v aa :: L))
    (hown : w'.ownsRow 0 31 2 v' (aa.length + 1) (Go.Proofs.YtadlfffhddpajaaDoor.ints (flatA aa) ++ [.int .i64 a.kind, .int .i64 a.number])) (hg : (wr.alloc (.cells cs 31)).grownBy w' v.ownBlock)
    (hat : v'.ownBlock = v.ownBlock ∨ v'.ownBlock = some (wr.alloc (.cells cs 31)).heap.size) : St w w' (rActs v' (aa ++ [a]) :: L) :=
  ((S.alloc1 cs 31).rid 1 rfl).appA 0 (bs := [a]) rfl rfl hown hg hat
theorem ActR.none_ {e : Ending} (h : ActR none e) : e = .returned (.tuple #[.agg #[.int .i64 0, .int .i64 0], .bool false]) := h
theorem ActR.some_ {e : Ending} {k n : Int} (h : ActR (some (k, n)) e) : e = .returned (.tuple #[.agg #[.int .i64 k, .int .i64 n], .bool true]) := h
theorem ret_vi {v : Value} {a b : Int} (h : a = b) : Ending.returned (.tuple #[v, .int .i64 a]) = .returned (.tuple #[v, .int .i64 b]) := by rw [h]
/-- what is read, behind the acts aa, which end at fr -/
def JAt (l : List UInt8) (aa : List ActD) (fr : Nat) (cur rest : List UInt8) : Prop := rJ l = aa ++ dL (readJ cur rest).1 ∧ rN l = fr + (readJ cur rest).2
set_option maxRecDepth 100000 in
set_option maxHeartbeats 1000000 in
theorem readJournal_impl (s : ByteArray) (w : World) (hs : s.size ≤ 1099511627776) :
    Calls Tryd.prog 20 #[.string s] w fun e w' => ∃ v, e = .returned (.tuple #[v, .int .i64 (rN s.data.toList : Nat)]) ∧ St w w' [rActs v (rJ s.data.toList)] := by
  have HS0 : Hid (St w w [rActs (.slice none 0 0) []]) := Lib.hid (rActs_nil w w (Below.refl _ _))
  go_enter Tryd.func20, Tryd.ntmps20
  go_wp2
  go_loopw [4, 5] (fun o f wr => ∃ (fr : Nat) (aa : List ActD), fr ≤ s.size ∧ aa.length ≤ fr ∧ f = .int .i64 fr ∧ Hid (JAt s.data.toList aa fr [] (s.data.toList.drop fr)) ∧ St w wr [rActs o aa]) (fun _ f _ => s.size - (intOf f).toNat)
  case atStart => exact ⟨0, [], by omega, by simp, rfl, Lib.hid ⟨by simp [rJ], by simp [rN]⟩, HS0.out⟩
  case round =>
    clear HS0
    obtain ⟨fr, aa, hfk, hal, rfl, hj, S⟩ := hrel
    have HS := Lib.hid S
    clear S
    have HJ := Lib.hid hj.out
    have HX : Hid ((s.extract fr s.size).data.toList = s.data.toList.drop fr) := Lib.hid (by
      rw [Lib.extract_data]; exact List.take_of_length_le (by rw [List.length_drop, ← Lib.size_eq]; omega))
    have hxs : (s.extract fr s.size).size ≤ 1099511627776 := by rw [Lib.size_eq, HX.out, List.length_drop, ← Lib.size_eq]; omega
    have hdl : (s.data.toList.drop fr).length = s.size - fr := by rw [List.length_drop, ← Lib.size_eq]
    have HDL := Lib.hid hdl
    have c1 : (0 : Int) ≤ (fr : Int) := by omega
    have c2 : (fr : Int) ≤ (s.size : Int) := by omega
    clear hj hdl
    by_cases hm : (10 : UInt8) ∈ s.data.toList.drop fr
    · obtain ⟨a, b, hab, hna⟩ := List.eq_append_cons_of_mem hm
      have HAB : Hid ((s.extract fr s.size).data.toList = a ++ 10 :: b) := Lib.hid (by rw [HX.out]; exact hab)
      have HNA := Lib.hid hna
      have hlen : a.length + 1 + b.length = s.size - fr := by rw [← HDL.out, hab]; simp; omega
      have HB : Hid (s.data.toList.drop (fr + (a.length + 1)) = b) := Lib.hid (by
        rw [← List.drop_drop, hab, show a ++ 10 :: b = (a ++ [10]) ++ b by simp]
        exact List.drop_left' (by simp))
      have HJL := Lib.hid (readJ_line hna [] b)
      have HD := Lib.hid hab
      clear hm hab hna
      go_wp2_with fail
      refine (cut_at (s.extract fr s.size) 10 a b _ HNA.out HAB.out (by omega)).mono ?_
      rintro e w2 ⟨rfl, nd, rfl⟩
      have HS2 := Lib.hid (HS.out.drewN nd)
      obtain ⟨w2, hw2⟩ : ∃ w2, wr.drewN nd = w2 := ⟨_, rfl⟩
      rw [hw2] at HS2
      rw [hw2]
      clear hw2
      obtain ⟨t, ht⟩ : ∃ t : ByteArray, (⟨a.toArray⟩ : ByteArray) = t := ⟨_, rfl⟩
      have htl : t.data.toList = a := by rw [← ht]
      have hts : t.size = a.length := by rw [Lib.size_eq, htl]
      have HTL := Lib.hid htl
      have HTS := Lib.hid hts
      rw [ht]
      clear ht htl
      have hts' : t.size ≤ 1099511627776 := by omega
      have hts2 : fr + (t.size + 1) ≤ s.size := by omega
      clear hts hlen
      go_wp2_with fail
      refine (readAct_impl t _ (by omega)).mono ?_
      rintro e w3 ⟨hr3, hb3⟩
      rw [HTL.out] at hr3
      have HS3 := Lib.hid (HS2.out.quiet hb3)
      clear hb3
      cases hra : readA a with
      | none =>
        have HE : Hid (rJ s.data.toList = aa ∧ rN s.data.toList = fr) := Lib.hid (by
          have := HJ.out; unfold JAt at this; rw [HD.out, HJL.out, List.nil_append, hra] at this; simpa [dL] using this)
        have HS4 := Lib.hid (((HS3.out.alloc1 #[.int .i64 0, .int .i64 0] 31).rid 1 rfl))
        rw [hra] at hr3
        obtain rfl := hr3.none_
        clear hra hr3
        go_wp2
        go_ret2
        exact ⟨_, ret_vi (by rw [HE.out.2]), by rw [HE.out.1]; exact HS4.out⟩
      | some x =>
        obtain ⟨ak, an⟩ := x
        have HE : Hid (JAt s.data.toList (aa ++ [⟨ak, an⟩]) (fr + (t.size + 1)) [] (s.data.toList.drop (fr + (t.size + 1)))) := Lib.hid (by
          have := HJ.out; unfold JAt at this ⊢; rw [HD.out, HJL.out, List.nil_append, hra] at this
          rw [HTS.out, HB.out]
          exact ⟨by rw [this.1]; simp [dL, dA], by rw [this.2]; simp only []; omega⟩)
        have HS4 := Lib.hid (((HS3.out.alloc1 #[.int .i64 ak, .int .i64 an] 31).rid 1 rfl))
        have HO := Lib.hid (HS4.out.ownA 0 rfl)
        rw [hra] at hr3
        obtain rfl := hr3.some_
        clear hra hr3 HS3 HJ
        go_wp2_with (at_builtin; refine wp_app elAct rfl (.tmp 32) (.tmp 34) rfl 0 _ aa.length (Go.Proofs.YtadlfffhddpajaaDoor.ints (flatA aa)) rfl (HO.out.alloc _) _ _ 1 1 [.int .i64 ak, .int .i64 an] rfl (RdRow.newAt (w3.alloc (.cells #[.int .i64 ak, .int .i64 an] 31)) [.int .i64 ak, .int .i64 an] 31 2 1 (w3.heap.size + 1) (by simp) rfl (by unfold maxLen; omega)) (by simp [Value.oneCell']) (by omega) (by omega) (Nat.zero_le _) ?_; intro v5 w5 hown5 hg5 hat5; have HS5 := Lib.hid (HS4.out.addAct (a := ⟨ak, an⟩) hown5 hg5 hat5); clear hown5 hg5 hat5)
        go_wp2
        go_roundw
        case rel => exact ⟨fr + (t.size + 1), _, by omega, by simp; omega, by go_num, HE, HS5.out⟩
        case measure => simp [intOf]; omega
    · have HM : Hid ((10 : UInt8) ∉ (s.extract fr s.size).data.toList) := Lib.hid (by rw [HX.out]; exact hm)
      have HE : Hid (rJ s.data.toList = aa ∧ rN s.data.toList = fr) := Lib.hid (by
        have := HJ.out; unfold JAt at this; rw [readJ_none hm] at this; simpa [dL] using this)
      clear hm
      go_wp2_with fail
      refine (cut_none (s.extract fr s.size) 10 _ HM.out).mono ?_
      rintro e w2 ⟨rfl, nd, rfl⟩
      have HS2 := Lib.hid (HS.out.drewN nd)
      go_wp2
      go_ret2
      exact ⟨_, ret_vi (by rw [HE.out.2]), by rw [HE.out.1]; exact HS2.out⟩
end Go.Proofs.YtadlfffhddpajaaDoor
