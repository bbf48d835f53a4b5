/- strings.CutPrefix, strings.Cut at one byte: the library's own text, walked after the shelf's worked walks. -/
import Derived.Test.YtgnmlpklojgpfaaSTextP
import Derived.Lib.Strings
import Derived.Lib.Slices
import Derived.Lib.Walk
import Derived.Lib.Bytealg
import Derived.Lib.CutLaws
namespace Go.Proofs.Ytgnmlpklojgpfaa
set_option linter.unusedVariables false
set_option linter.unusedSimpArgs false
open Go.ChangeShapes Go.WideShapes Go.ChangeAt Go.RowKit

theorem ba_of {x : ByteArray} {l : List UInt8} (h : x.data.toList = l) : x = ⟨l.toArray⟩ := by subst h; cases x; simp
theorem ba_data (l : List UInt8) : (⟨l.toArray⟩ : ByteArray).data.toList = l := rfl
set_option maxHeartbeats 1000000 in
theorem cutPrefix_any (s p : ByteArray) (w : World) :
    Calls Try.prog 50 #[.string s, .string p] w fun e w' => e = .returned (.tuple #[.string ⟨(Lib.trimPrefix s.data.toList p.data.toList).toArray⟩, .bool (Lib.hasPrefix s.data.toList p.data.toList)]) ∧ w = w' := by
  go_enter Try.func50, Try.ntmps50
  go_wp2
  · have h2 : (!((s.extract 0 p.size).toList == p.toList)) = true := by assumption
    have h3 : (decide (p.size ≤ s.size) && ((s.extract 0 p.size).toList == p.toList)) = false := by
      have : ((s.extract 0 p.size).toList == p.toList) = false := by simpa using h2
      rw [this]
      simp
    go_ret2
    refine ⟨?_, rfl⟩
    rw [Lib.trimPrefix_miss s p h3, ← Lib.hasPrefix_raw, h3]
    rfl
  · have h1 : p.size ≤ s.size := by assumption
    have h2 : (!((s.extract 0 p.size).toList == p.toList)) = false := by assumption
    have h2' : ((s.extract 0 p.size).toList == p.toList) = true := by simpa using h2
    go_ret2
    refine ⟨?_, rfl⟩
    rw [Lib.trimPrefix_hit s p h1 h2', ← Lib.hasPrefix_raw, h2', decide_eq_true h1]
    rfl
  · have h1 : ¬ p.size ≤ s.size := by assumption
    have h3 : (decide (p.size ≤ s.size) && ((s.extract 0 p.size).toList == p.toList)) = false := by simp [h1]
    go_ret2
    refine ⟨?_, rfl⟩
    rw [Lib.trimPrefix_miss s p h3, ← Lib.hasPrefix_raw, h3]
    rfl
set_option maxHeartbeats 2000000 in
set_option maxRecDepth 100000 in
theorem sliteIndexByte_any (s : ByteArray) (c : Int) (w : World) :
    Calls Try.prog 78 #[.string s, .int .u8 c] w fun e w' => e = .returned (.int .i64 (Lib.indexByte s.data.toList c.toNat.toUInt8)) ∧ w = w' := by
  go_enter Try.func78, Try.ntmps78
  go_wp2
  rw [run_callFunc_extern Try.func82 (by kernel_rfl) (by kernel_rfl) (by kernel_rfl) (e := Extern.BytealgIndexByte.indexByte) (by kernel_rfl), Lib.run_indexByteString]
  simp only [Result.andThen]
  rw [Oper.upon_value]
  go_wp2
  go_ret
  exact ⟨rfl, rfl⟩
set_option maxHeartbeats 2000000 in
set_option maxRecDepth 100000 in
theorem sliteIndex_one (s : ByteArray) (c : UInt8) (w : World) :
    Calls Try.prog 77 #[.string s, .string ⟨#[c]⟩] w fun e w' => e = .returned (.int .i64 (Lib.indexByte s.data.toList c)) ∧ w = w' := by
  go_enter Try.func77, Try.ntmps77
  go_wp2_with (go_at_call 78; refine (sliteIndexByte_any _ _ _).mono ?_; rintro e w' ⟨rfl, rfl⟩)
  · have h : ([c] == s.toList) = true := by assumption
    go_ret
    refine ⟨?_, rfl⟩
    have e : s.data.toList = [c] := by rw [← Lib.toList_data]; exact (beq_iff_eq.1 h).symm
    rw [e]
    exact ret_int (by simp [Lib.indexByte])
  · go_ret
    exact ⟨rfl, rfl⟩
theorem indexByte_none {l : List UInt8} {c : UInt8} (h : c ∉ l) : Lib.indexByte l c = -1 := by
  induction l with
  | nil => rfl
  | cons a r ih =>
    simp only [List.mem_cons, not_or] at h
    have h1 : (a == c) = false := by rw [Bool.eq_false_iff]; intro e; exact h.1 (by simpa using (beq_iff_eq.1 e).symm)
    unfold Lib.indexByte
    rw [h1, ih h.2]; rfl
theorem indexByte_at {l r : List UInt8} {c : UInt8} (h : c ∉ l) : Lib.indexByte (l ++ c :: r) c = l.length := by
  induction l with
  | nil => simp [Lib.indexByte]
  | cons a t ih =>
    simp only [List.mem_cons, not_or] at h
    have h1 : (a == c) = false := by rw [Bool.eq_false_iff]; intro e; exact h.1 (by simpa using (beq_iff_eq.1 e).symm)
    rw [List.cons_append]
    unfold Lib.indexByte
    rw [h1, ih h.2]
    have h2 : (((t.length : Nat) : Int) == -1) = false := by rw [Bool.eq_false_iff]; intro e; have := beq_iff_eq.1 e; omega
    simp [h2]
set_option maxHeartbeats 2000000 in
set_option maxRecDepth 100000 in
theorem sliteCut_none (s : ByteArray) (c : UInt8) (w : World) (h : c ∉ s.data.toList) :
    Calls Try.prog 74 #[.string s, .string ⟨#[c]⟩] w fun e w' => e = .returned (.tuple #[.string s, .string .empty, .bool false]) ∧ ∃ n, w' = w.drewN n := by
  have HI := Lib.hid (indexByte_none h)
  clear h
  go_enter Try.func74, Try.ntmps74
  go_wp2_with fail
  refine (sliteIndex_one s c _).mono ?_
  rintro e w' ⟨rfl, rfl⟩
  rw [HI.out]
  go_wp2
  go_ret3
  exact ⟨rfl, 0, rfl⟩
set_option maxHeartbeats 2000000 in
set_option maxRecDepth 100000 in
theorem sliteCut_at (s : ByteArray) (c : UInt8) (a b : List UInt8) (w : World) (h : c ∉ a) (hs : s.data.toList = a ++ c :: b) (hm : s.size ≤ 9223372036854775807) :
    Calls Try.prog 74 #[.string s, .string ⟨#[c]⟩] w fun e w' => e = .returned (.tuple #[.string ⟨a.toArray⟩, .string ⟨b.toArray⟩, .bool true]) ∧ ∃ n, w' = w.drewN n := by
  have HI : Hid (Lib.indexByte s.data.toList c = (a.length : Int)) := Lib.hid (by rw [hs]; exact indexByte_at h)
  have hsz : s.size = a.length + 1 + b.length := by rw [Lib.size_eq, hs]; simp; omega
  have e1 : s.extract 0 a.length = ⟨a.toArray⟩ := by rw [Lib.extract_eq, hs]; simp
  have e2 : s.extract (a.length + 1) s.size = ⟨b.toArray⟩ := by
    rw [Lib.extract_eq, hsz, hs]
    congr 2
    rw [show a ++ c :: b = (a ++ [c]) ++ b by simp, List.drop_append_of_le_length (by simp), List.drop_of_length_le (by simp), List.nil_append]
    exact List.take_of_length_le (by omega)
  have E1 := Lib.hid e1
  have E2 := Lib.hid e2
  have c1 : (0 : Int) ≤ (a.length : Int) := by omega
  have c2 : (a.length : Int) ≤ (s.size : Int) := by omega
  have c3 : (0 : Int) ≤ (a.length : Int) + 1 := by omega
  have c4 : (a.length : Int) + 1 ≤ (s.size : Int) := by omega
  clear h hs e1 e2 hsz
  obtain ⟨k, hk⟩ : ∃ k, a.length = k := ⟨_, rfl⟩
  rw [hk] at HI E1 E2 c1 c2 c3 c4
  clear hk
  go_enter Try.func74, Try.ntmps74
  go_wp2_with fail
  refine (sliteIndex_one s c _).mono ?_
  rintro e w' ⟨rfl, rfl⟩
  rw [HI.out]
  go_wp2
  go_region
  all_goals (go_wp2; go_ret3; exact ⟨by rw [← E1.out, ← E2.out]; rfl, 1, rfl⟩)
set_option maxRecDepth 100000 in
theorem cut_none (s : ByteArray) (c : UInt8) (w : World) (h : c ∉ s.data.toList) :
    Calls Try.prog 66 #[.string s, .string ⟨#[c]⟩] w fun e w' => e = .returned (.tuple #[.string s, .string .empty, .bool false]) ∧ ∃ n, w' = w.drewN n := by
  go_enter Try.func66, Try.ntmps66
  go_wp2_with fail
  refine (sliteCut_none s c _ h).mono ?_
  rintro e w' ⟨rfl, n, rfl⟩
  go_wp2
  go_ret3
  exact ⟨rfl, n, rfl⟩
set_option maxRecDepth 100000 in
theorem cut_at (s : ByteArray) (c : UInt8) (a b : List UInt8) (w : World) (h : c ∉ a) (hs : s.data.toList = a ++ c :: b) (hm : s.size ≤ 9223372036854775807) :
    Calls Try.prog 66 #[.string s, .string ⟨#[c]⟩] w fun e w' => e = .returned (.tuple #[.string ⟨a.toArray⟩, .string ⟨b.toArray⟩, .bool true]) ∧ ∃ n, w' = w.drewN n := by
  have HSS := Lib.hid hs
  clear hs
  go_enter Try.func66, Try.ntmps66
  go_wp2_with fail
  refine (sliteCut_at s c a b _ h HSS.out hm).mono ?_
  rintro e w' ⟨rfl, n, rfl⟩
  go_wp2
  go_ret3
  exact ⟨rfl, n, rfl⟩
end Go.Proofs.Ytgnmlpklojgpfaa
