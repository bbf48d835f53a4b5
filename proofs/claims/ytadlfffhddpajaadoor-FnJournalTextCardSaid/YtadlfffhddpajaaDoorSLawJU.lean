/- The draw of a journal; the walk of FnJournalText. -/
import Derived.Test.YtadlfffhddpajaaDoorSJourP
import Derived.Test.YtadlfffhddpajaaDoorSJourR
import Derived.Test.YtadlfffhddpajaaDoorSLawAT
import Derived.Test.YtadlfffhddpajaaDoorSActsH
namespace Go.Proofs.YtadlfffhddpajaaDoor
set_option linter.unusedVariables false
set_option linter.unusedSimpArgs false
open Go.ChangeShapes Go.WideShapes Go.ChangeAt Go.RowKit

set_option maxRecDepth 100000 in
set_option maxHeartbeats 1000000 in
theorem l20Written_rd {w W : World} {g hi : Nat} (S : St w W [rRd w g hi]) (hh : hi ≤ 1000) :
    Calls Tryd.prog 41 #[.pointer (some ⟨g, 0, none⟩)] W fun e w' => ∃ v aa, e = .returned v ∧ aa.length ≤ 11 ∧ (∀ a ∈ aa, aT a ≠ []) ∧ St w w' [rActs v aa, rRd w g (hi + 500)] := by
  obtain ⟨g0, hg0⟩ : ∃ x, W.heap.size = x := ⟨_, rfl⟩
  have HS0 : Hid (St w (W.alloc (.cells #[] 31)) [rRd w g hi, rActs (.slice (some ⟨g0, 0, none⟩) 0 0) []]) := Lib.hid (S.call (St.newA W g0 hg0.symm))
  clear S
  go_enter Tryd.func41, Tryd.ntmps41
  go_wp2_with fail
  try rw [hg0]
  clear hg0
  refine (l20Book_rd HS0.out (by omega) 0).mono ?_
  rintro e w1 ⟨v1, b, rfl, s1⟩
  have HS1 := Lib.hid s1
  clear s1 HS0
  go_wp2_with fail
  refine (l20Acts_rd HS1.out (by omega)).mono ?_
  rintro e w2 ⟨v2, aa, rfl, hal, -, s2⟩
  have HS2 : Hid (St w w2 [rActs (.slice (some ⟨g0, 0, none⟩) 0 0) [], rRd w g (hi + 500), rActs v2 aa]) := Lib.hid (s2.pick [3, 0, 1] (by decide) rfl rfl)
  clear s2 HS1
  obtain ⟨A2, c2, rfl, hrd2⟩ := HS2.out.rdA 2 rfl
  obtain ⟨n, hn⟩ : ∃ n, aa.length = n := ⟨_, rfl⟩
  rw [hn] at HS2 hal hrd2
  rw [hn]
  clear hn hrd2
  go_wp2
  go_loopw [3, 5] (fun o i wr => ∃ (k : Nat) (bs : List ActD), k ≤ n ∧ i = .int .i64 k ∧ bs.length ≤ k ∧ Hid (∀ a ∈ bs, aT a ≠ []) ∧ St w wr [rActs o bs, rRd w g (hi + 500), rActs (.slice A2 n c2) aa]) (fun _ i _ => n - (intOf i).toNat)
  case atStart => exact ⟨0, [], by omega, rfl, by simp, Lib.hid (by simp), HS2.out⟩
  case round =>
    clear HS2
    obtain ⟨k, bs, hk, rfl, hbl, hg, S⟩ := hrel
    have HS := Lib.hid S
    clear S
    by_cases hlt : k < n
    · obtain ⟨b, off, a, rfl, hb, ha, q0, q1⟩ := (HS.out.rdA' 2 rfl).get hlt
      have HA := Lib.hid ha
      obtain ⟨ak, an⟩ := a
      have q0' : wr.cell? ⟨b, off + k * 2, none⟩ = some (.int .i64 ak) := q0
      have q1' : wr.cell? ⟨b, off + k * 2 + 1, none⟩ = some (.int .i64 an) := q1
      clear q0 q1 ha
      go_wp2_with fail
      refine (actText_spec ak an _).mono ?_
      rintro e w3 ⟨rfl, hb3⟩
      have c0 : w3.cell? ⟨b, off + k * 2, none⟩ = some (.int .i64 ak) := (bcells hb3 b _ hb).trans q0'
      have c1 : w3.cell? ⟨b, off + k * 2 + 1, none⟩ = some (.int .i64 an) := (bcells hb3 b _ hb).trans q1'
      have HS3 := Lib.hid (HS.out.quiet hb3)
      clear hb3 q0' q1'
      obtain ⟨t, ht⟩ : ∃ t : ByteArray, (⟨(actT ak an).toArray⟩ : ByteArray) = t := ⟨_, rfl⟩
      have HT : Hid (t.data.toList = aT ⟨ak, an⟩) := Lib.hid (by rw [← ht]; rfl)
      rw [ht]
      clear ht
      by_cases he : t.data.toList = []
      · have b0 : t.toList.isEmpty = true := by rw [Lib.toList_data, he]; rfl
        clear he
        go_wp2
        go_roundw
        case rel => exact ⟨k + 1, bs, by omega, by go_num, by omega, hg, HS3.out⟩
        case measure => simp [intOf]; omega
      · have b0 : t.toList.isEmpty = false := by rw [Lib.toList_data]; cases h : t.data.toList with | nil => exact absurd h he | cons x y => rfl
        have HG : Hid (∀ a ∈ bs ++ [⟨ak, an⟩], aT a ≠ []) := Lib.hid (fun a ha => by
          rcases List.mem_append.1 ha with ha | ha
          · exact hg.out a ha
          · rw [List.mem_singleton.1 ha, ← HT.out]; exact he)
        have HO := Lib.hid (HS3.out.ownA 0 rfl)
        clear he
        go_wp2_with (at_builtin; refine wp_app elAct rfl (.tmp 23) (.tmp 28) rfl 0 _ bs.length (Go.Proofs.YtadlfffhddpajaaDoor.ints (flatA bs)) rfl (HO.out.alloc _) _ _ 1 1 [.int .i64 ak, .int .i64 an] rfl (RdRow.new w3 [.int .i64 ak, .int .i64 an] 31 2 1 rfl (by unfold maxLen; omega)) (by simp [Value.oneCell']) (by omega) (by omega) (Nat.zero_le _) ?_; intro v5 w5 hown5 hg5 hat5; have HS5 := Lib.hid (HS3.out.addAct (a := ⟨ak, an⟩) hown5 hg5 hat5); clear hown5 hg5 hat5)
        go_wp2
        go_roundw
        case rel => exact ⟨k + 1, _, by omega, by go_num, by simp; omega, HG, HS5.out⟩
        case measure => simp [intOf]; omega
    · go_wp2
      go_ret
      exact ⟨_, bs, rfl, by omega, hg.out, HS.out.pick [0, 1] (by decide) rfl rfl⟩
set_option maxRecDepth 100000 in
set_option maxHeartbeats 1000000 in
theorem drawJournalText (A : Option Addr) (n c : Nat) (xs : List Int) (w : World) (h : RdI .u8 w w.heap.size A n c xs) :
    Calls Tryd.prog 19 #[.slice A n c] w fun e w' => ∃ v aa, e = .returned v ∧ aa.length ≤ 12 ∧ St w w' [rActs v aa] := by
  have H := Lib.hid h
  clear h
  go_enter Tryd.func19, Tryd.ntmps19
  go_wp2_with fail
  refine (l20Open_rd (St.refl w) H.out).mono ?_
  rintro e w1 ⟨g, rfl, s1⟩
  have HS1 := Lib.hid s1
  clear s1
  go_wp2_with fail
  refine (l20Written_rd HS1.out (by omega)).mono ?_
  rintro e w2 ⟨v2, aa, rfl, hal, -, s2⟩
  have HS2 := Lib.hid (s2.swap2)
  clear s2 HS1
  go_wp2_with fail
  refine (odd_rd HS2.out (by omega) 12).mono ?_
  rintro e w3 ⟨b, rfl, s3⟩
  have HS3 := Lib.hid s3.tl
  clear s3 HS2
  cases b
  · go_wp2
    go_ret
    exact ⟨_, aa, rfl, by omega, HS3.out⟩
  · have HO := Lib.hid (HS3.out.ownA 0 rfl)
    go_wp2_with (at_builtin; refine wp_app elAct rfl (.tmp 11) (.tmp 13) rfl 0 _ aa.length (Go.Proofs.YtadlfffhddpajaaDoor.ints (flatA aa)) rfl (HO.out.alloc _) _ _ 1 1 [.int .i64 9, .int .i64 0] rfl (RdRow.new w3 [.int .i64 9, .int .i64 0] 31 2 1 rfl (by unfold maxLen; omega)) (by simp [Value.oneCell']) (by omega) (by omega) (Nat.zero_le _) ?_; intro v5 w5 hown5 hg5 hat5; have HS5 := Lib.hid (HS3.out.addAct (a := ⟨9, 0⟩) hown5 hg5 hat5); clear hown5 hg5 hat5)
    go_wp2
    go_ret
    exact ⟨_, _, rfl, by simp; omega, HS5.out⟩
set_option maxRecDepth 100000 in
set_option maxHeartbeats 1000000 in
theorem FnJournalText_walk (A : Option Addr) (n c : Nat) (xs : List Int) (w : World) (h : RdI .u8 w w.heap.size A n c xs) :
    Calls Tryd.prog 6 #[.slice A n c] w fun e w' => e = .returned (.bool true) ∧ Below w.heap.size w w' := by
  have hcp := h.cap
  have hcm := h.capMax
  unfold maxLen at hcm
  have H := Lib.hid h
  clear h
  by_cases hbig : 1048576 < n
  · have h1 : (1048576 : Int) < (n : Int) := by omega
    go_enter Tryd.func6, Tryd.ntmps6
    go_wp2
    go_ret
    exact ⟨rfl, Below.refl _ _⟩
  have h1 : ¬ (1048576 : Int) < (n : Int) := by omega
  clear hbig
  go_enter Tryd.func6, Tryd.ntmps6
  go_wp2_with fail
  refine (drawJournalText A n c xs _ H.out).mono ?_
  rintro e w1 ⟨v1, aa, rfl, hal, s1⟩
  obtain ⟨A1, c1, rfl, -⟩ := s1.rdA 0 rfl
  have HS1 := Lib.hid s1
  clear s1
  obtain ⟨m, hm⟩ : ∃ m, aa.length = m := ⟨_, rfl⟩
  rw [hm] at HS1 hal
  rw [hm]
  have HM := Lib.hid hm
  clear hm
  obtain ⟨t, ht⟩ : ∃ t : ByteArray, (⟨(jT aa).toArray⟩ : ByteArray) = t := ⟨_, rfl⟩
  have HTT := Lib.hid ht
  have htl : t.data.toList = jT aa := by rw [← ht]
  have HTL := Lib.hid htl
  have hts : t.size ≤ 96 := by
    have := jT_len aa
    rw [← ht, size_of_list, HM.out] at *
    omega
  clear ht htl
  go_wp2_with fail
  refine (journalText_impl A1 m c1 aa _ (HS1.out.rdA' 0 rfl) (by omega)).mono ?_
  rintro e w2 ⟨rfl, hb2⟩
  rw [HTT.out]
  have HS2 := Lib.hid (HS1.out.quiet hb2)
  clear hb2
  go_wp2_with fail
  refine (journalText_spec A1 m c1 aa _ (HS2.out.rdA' 0 rfl) (by omega)).mono ?_
  rintro e w3 ⟨rfl, hb3⟩
  rw [HTT.out]
  have HS3 := Lib.hid (HS2.out.quiet hb3)
  clear hb3
  by_cases he : t.data.toList = []
  · have b0 : t.toList.isEmpty = true := by rw [Lib.toList_data, he]; rfl
    clear he
    go_wp2_with fail
    refine (alive_any _).mono ?_
    rintro e w4 ⟨rfl, hb4⟩
    have HS4 := Lib.hid (HS3.out.quiet hb4)
    clear hb4
    go_wp2
    go_ret
    exact ⟨rfl, HS4.out.below⟩
  · have b0 : t.toList.isEmpty = false := by rw [Lib.toList_data]; cases h : t.data.toList with | nil => exact absurd h he | cons x y => rfl
    have hj := rJ_jT (aa := aa) (by rw [← HTL.out]; exact he)
    rw [← HTL.out, ← Lib.size_eq] at hj
    have HR : Hid (∀ w, Calls Tryd.prog 20 #[.string t] w fun e w' => ∃ v, e = .returned (.tuple #[v, .int .i64 (t.size : Nat)]) ∧ St w w' [rActs v aa]) := Lib.hid (fun w => by
      have := readJournal_impl t w (by omega)
      rw [hj.1, hj.2] at this
      exact this)
    clear he hj
    go_wp2_with fail
    refine (HR.out _).mono ?_
    rintro e w4 ⟨v4, rfl, s4⟩
    obtain ⟨A4, c4, rfl, -⟩ := s4.rdA 0 rfl
    have HS4 := Lib.hid (HS3.out.call s4)
    clear s4
    rw [HM.out] at HS4
    rw [HM.out]
    go_wp2_with fail
    refine (sameActs_same A4 m c4 aa A1 m c1 _ (HS4.out.rdA' 1 rfl) (HS4.out.rdA' 0 rfl)).mono ?_
    rintro e w5 ⟨rfl, hb5⟩
    have HS5 := Lib.hid (HS4.out.quiet hb5)
    clear hb5
    go_wp2
    go_ret
    exact ⟨rfl, HS5.out.below⟩
end Go.Proofs.YtadlfffhddpajaaDoor
