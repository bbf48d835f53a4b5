/- ReadAct of the program. -/
import Derived.Test.YtgnmlpklojgpfaaSActT
import Derived.ShutString
namespace Go.Proofs.Ytgnmlpklojgpfaa
set_option linter.unusedVariables false
set_option linter.unusedSimpArgs false
open Go.ChangeShapes Go.WideShapes Go.ChangeAt Go.RowKit

def actV (o : Option (Int × Int)) : Value := .agg #[.int .i64 (o.getD (0, 0)).1, .int .i64 (o.getD (0, 0)).2]
def ActR (o : Option (Int × Int)) (e : Ending) : Prop := e = .returned (.tuple #[actV o, .bool o.isSome])
theorem ba_eq {s : ByteArray} {l : List UInt8} (h : s.data.toList = l) : s = ⟨l.toArray⟩ := ba_of h
theorem readA_do' {s : List UInt8} (h1 : s ≠ shortW) (h2 : s ≠ endW) (h3 : (doW ++ [32]).isPrefixOf s = true) : readA s = (readN (s.drop 3)).map fun (n : Nat) => ((0 : Int), (n : Int)) := by
  unfold readA; rw [if_neg h1, if_neg h2, if_pos h3]
theorem readA_back' {s : List UInt8} (h1 : s ≠ shortW) (h2 : s ≠ endW) (h3 : (doW ++ [32]).isPrefixOf s = false) (h4 : (backW ++ [32]).isPrefixOf s = true) : readA s = (readN (s.drop 5)).map fun (n : Nat) => ((1 : Int), (n : Int)) := by
  unfold readA; rw [if_neg h1, if_neg h2, if_neg (by rw [h3]; simp), if_pos h4]
theorem readA_none' {s : List UInt8} (h1 : s ≠ shortW) (h2 : s ≠ endW) (h3 : (doW ++ [32]).isPrefixOf s = false) (h4 : (backW ++ [32]).isPrefixOf s = false) : readA s = none := by
  unfold readA; rw [if_neg h1, if_neg h2, if_neg (by rw [h3]; simp), if_neg (by rw [h4]; simp)]
theorem cutPrefix_yes (s p : ByteArray) (t : List UInt8) (w : World) (h : s.data.toList = p.data.toList ++ t) :
    Calls Try.prog 50 #[.string s, .string p] w fun e w' => e = .returned (.tuple #[.string ⟨t.toArray⟩, .bool true]) ∧ w = w' := by
  have h1 : Lib.hasPrefix s.data.toList p.data.toList = true := by
    unfold Lib.hasPrefix; rw [List.isPrefixOf_iff_prefix]; exact ⟨t, h.symm⟩
  have h2 : Lib.trimPrefix s.data.toList p.data.toList = t := by
    unfold Lib.trimPrefix; rw [if_pos h1, h]; simp
  refine (cutPrefix_any s p w).mono ?_
  rintro e w' ⟨rfl, rfl⟩
  rw [h1, h2]
  exact ⟨rfl, rfl⟩
theorem cutPrefix_no (s p : ByteArray) (w : World) (h : p.data.toList.isPrefixOf s.data.toList = false) :
    Calls Try.prog 50 #[.string s, .string p] w fun e w' => e = .returned (.tuple #[.string s, .bool false]) ∧ w = w' := by
  have h1 : Lib.hasPrefix s.data.toList p.data.toList = false := h
  have h2 : Lib.trimPrefix s.data.toList p.data.toList = s.data.toList := by
    unfold Lib.trimPrefix; rw [if_neg (by rw [h1]; simp)]
  refine (cutPrefix_any s p w).mono ?_
  rintro e w' ⟨rfl, rfl⟩
  rw [h1, h2, Lib.mk_data]
  exact ⟨rfl, rfl⟩
set_option maxRecDepth 100000 in
set_option maxHeartbeats 1000000 in
theorem readAct_impl (s : ByteArray) (w : World) (hs : s.size ≤ 9223372036854775807) :
    Calls Try.prog 25 #[.string s] w fun e w' => ActR (readA s.data.toList) e ∧ Below w.heap.size w w' := by
  by_cases h1 : s.data.toList = shortW
  · obtain rfl := ba_eq h1
    clear h1 hs
    go_enter Try.func25, Try.ntmps25
    go_wp2
    exact bodyPost_ret (v := .tuple #[.agg #[.int .i64 2, .int .i64 0], .bool true]) (by simp [results, Try.results25, go_sem]) rfl ⟨rfl, (Below.refl _ _).alloc (Nat.le_refl _) _⟩
  by_cases h2 : s.data.toList = endW
  · obtain rfl := ba_eq h2
    clear h1 h2 hs
    go_enter Try.func25, Try.ntmps25
    go_wp2
    exact bodyPost_ret (v := .tuple #[.agg #[.int .i64 3, .int .i64 0], .bool true]) (by simp [results, Try.results25, go_sem]) rfl ⟨rfl, (Below.refl _ _).alloc (Nat.le_refl _) _⟩
  have b1 : (s.toList == [115, 104, 111, 114, 116]) = false := by
    rw [Bool.eq_false_iff, Lib.toList_data]; intro h; exact h1 (beq_iff_eq.1 h)
  have b2 : (s.toList == [101, 110, 100]) = false := by
    rw [Bool.eq_false_iff, Lib.toList_data]; intro h; exact h2 (beq_iff_eq.1 h)
  have hsl := Lib.size_eq s
  cases h3 : (doW ++ [32]).isPrefixOf s.data.toList with
  | true =>
    have HR := Lib.hid (readA_do' h1 h2 h3)
    have HP := Lib.hid (pre_drop h3)
    have HT : Hid ((⟨(s.data.toList.drop 3).toArray⟩ : ByteArray).size ≤ 9223372036854775807) := Lib.hid (by rw [size_of_list, List.length_drop]; omega)
    clear h1 h2 h3 hsl hs
    go_enter Try.func25, Try.ntmps25
    go_wp2_with fail
    refine (cutPrefix_yes s _ (s.data.toList.drop 3) _ HP.out).mono ?_
    rintro e w' ⟨rfl, rfl⟩
    go_wp2_with fail
    refine (readNumber_any ⟨(s.data.toList.drop 3).toArray⟩ 2 _ (by omega) HT.out).mono ?_
    rintro e w' ⟨hn, rfl⟩
    unfold NumR at hn
    rw [ba_data, rdNum_readN] at hn
    cases h4 : readN (s.data.toList.drop 3) with
    | none =>
      rw [h4] at hn HR
      subst hn
      clear h4
      go_wp2
      exact bodyPost_ret (v := .tuple #[.agg #[.int .i64 0, .int .i64 0], .bool false]) (by simp [results, Try.results25, go_sem]) rfl ⟨by rw [HR.out]; rfl, (Below.refl _ _).alloc (Nat.le_refl _) _⟩
    | some m =>
      rw [h4] at hn HR
      subst hn
      clear h4
      go_wp2
      exact bodyPost_ret (v := .tuple #[.agg #[.int .i64 0, .int .i64 m], .bool true]) (by simp [results, Try.results25, go_sem]) rfl ⟨by rw [HR.out]; rfl, (Below.refl _ _).alloc (Nat.le_refl _) _⟩
  | false =>
    cases h5 : (backW ++ [32]).isPrefixOf s.data.toList with
    | true =>
      have HR := Lib.hid (readA_back' h1 h2 h3 h5)
      have HP := Lib.hid (pre_drop h5)
      have HN := Lib.hid h3
      have HT : Hid ((⟨(s.data.toList.drop 5).toArray⟩ : ByteArray).size ≤ 9223372036854775807) := Lib.hid (by rw [size_of_list, List.length_drop]; omega)
      clear h1 h2 h3 h5 hsl hs
      go_enter Try.func25, Try.ntmps25
      go_wp2_with fail
      refine (cutPrefix_no s _ _ HN.out).mono ?_
      rintro e w' ⟨rfl, rfl⟩
      go_wp2_with fail
      refine (cutPrefix_yes s _ (s.data.toList.drop 5) _ HP.out).mono ?_
      rintro e w' ⟨rfl, rfl⟩
      go_wp2_with fail
      refine (readNumber_any ⟨(s.data.toList.drop 5).toArray⟩ 2 _ (by omega) HT.out).mono ?_
      rintro e w' ⟨hn, rfl⟩
      unfold NumR at hn
      rw [ba_data, rdNum_readN] at hn
      cases h4 : readN (s.data.toList.drop 5) with
      | none =>
        rw [h4] at hn HR
        subst hn
        clear h4
        go_wp2
        exact bodyPost_ret (v := .tuple #[.agg #[.int .i64 0, .int .i64 0], .bool false]) (by simp [results, Try.results25, go_sem]) rfl ⟨by rw [HR.out]; rfl, (Below.refl _ _).alloc (Nat.le_refl _) _⟩
      | some m =>
        rw [h4] at hn HR
        subst hn
        clear h4
        go_wp2
        exact bodyPost_ret (v := .tuple #[.agg #[.int .i64 1, .int .i64 m], .bool true]) (by simp [results, Try.results25, go_sem]) rfl ⟨by rw [HR.out]; rfl, (Below.refl _ _).alloc (Nat.le_refl _) _⟩
    | false =>
      have HR := Lib.hid (readA_none' h1 h2 h3 h5)
      have HN := Lib.hid h3
      have HN' := Lib.hid h5
      clear h1 h2 h3 h5 hsl hs
      go_enter Try.func25, Try.ntmps25
      go_wp2_with fail
      refine (cutPrefix_no s _ _ HN.out).mono ?_
      rintro e w' ⟨rfl, rfl⟩
      go_wp2_with fail
      refine (cutPrefix_no s _ _ HN'.out).mono ?_
      rintro e w' ⟨rfl, rfl⟩
      go_wp2
      exact bodyPost_ret (v := .tuple #[.agg #[.int .i64 0, .int .i64 0], .bool false]) (by simp [results, Try.results25, go_sem]) rfl ⟨by rw [HR.out]; rfl, (Below.refl _ _).alloc (Nat.le_refl _) _⟩
end Go.Proofs.Ytgnmlpklojgpfaa
