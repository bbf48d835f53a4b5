/- Joined texts: JourP, JourW. -/
import Derived.Test.YtadlfffhddpajaaDoorSActRS
import Derived.Test.YtadlfffhddpajaaDoorSBuilder
/- Journals of acts as they lie in memory: plain laws. -/
namespace Go.Proofs.YtadlfffhddpajaaDoor
set_option linter.unusedVariables false
set_option linter.unusedSimpArgs false

def aT (a : ActD) : List UInt8 := actT a.kind a.number
def aL (a : ActD) : List UInt8 := aT a ++ [10]
/-- the text of a journal -/
def jT (aa : List ActD) : List UInt8 := if aa.all (fun a => aT a != []) = true then aa.flatMap aL else []
def dP (aa : List ActD) : List (Int × Int) := aa.map fun a => (a.kind, a.number)
theorem jT_eq (aa : List ActD) : jT aa = jText (dP aa) := by
  unfold jT jText dP
  rw [List.all_map, List.flatMap_map]
  rfl
theorem dL_dP (aa : List ActD) : dL (dP aa) = aa := by
  unfold dL dP dA
  rw [List.map_map]
  exact List.map_id' aa
theorem jT_bad {aa : List ActD} {k : Nat} {a : ActD} (h : aa[k]? = some a) (ha : aT a = []) : jT aa = [] := by
  unfold jT
  rw [if_neg]
  rw [List.all_eq_true]
  intro hh
  have := hh a (List.mem_of_getElem? h)
  simp [ha] at this
theorem jT_good {aa : List ActD} (h : ∀ a ∈ aa, aT a ≠ []) : jT aa = aa.flatMap aL := by
  unfold jT
  rw [if_pos]
  rw [List.all_eq_true]
  intro a ha
  simpa using h a ha
theorem aT_len (a : ActD) : (aT a).length ≤ 7 := by
  by_cases h : actT a.kind a.number = []
  · unfold aT; rw [h]; simp
  · exact (actT_has h).len
theorem flat_len (aa : List ActD) : (aa.flatMap aL).length ≤ 8 * aa.length := by
  induction aa with
  | nil => simp
  | cons a aa ih => have := aT_len a; simp [aL] at ih ⊢; omega
theorem jT_len (aa : List ActD) : (jT aa).length ≤ 8 * aa.length := by
  unfold jT
  split
  · exact flat_len aa
  · simp
theorem take_last {aa : List ActD} {k : Nat} {a : ActD} (h : aa[k]? = some a) : aa.take (k + 1) = aa.take k ++ [a] := by
  obtain ⟨hk, rfl⟩ := List.getElem?_eq_some_iff.1 h
  rw [List.take_succ_eq_append_getElem hk]
theorem flat_last {aa : List ActD} {k : Nat} {a : ActD} (h : aa[k]? = some a) : (aa.take (k + 1)).flatMap aL = (aa.take k).flatMap aL ++ aL a := by
  rw [take_last h, List.flatMap_append]; simp
theorem good_last {aa : List ActD} {k : Nat} {a : ActD} (h : aa[k]? = some a) (hg : ∀ x ∈ aa.take k, aT x ≠ []) (ha : aT a ≠ []) : ∀ x ∈ aa.take (k + 1), aT x ≠ [] := by
  rw [take_last h]
  intro x hx
  rcases List.mem_append.1 hx with hx | hx
  · exact hg x hx
  · rw [List.mem_singleton.1 hx]; exact ha
/-- what a text is read as -/
def rJ (s : List UInt8) : List ActD := dL (readJ [] s).1
def rN (s : List UInt8) : Nat := (readJ [] s).2
theorem rJ_jT {aa : List ActD} (h : jT aa ≠ []) : rJ (jT aa) = aa ∧ rN (jT aa) = (jT aa).length := by
  rw [jT_eq] at h ⊢
  unfold rJ rN
  rw [readJ_jText h]
  exact ⟨dL_dP aa, rfl⟩
end Go.Proofs.YtadlfffhddpajaaDoor

/- JournalText of the program and of the reference. -/
namespace Go.Proofs.YtadlfffhddpajaaDoor
set_option linter.unusedVariables false
set_option linter.unusedSimpArgs false
open Go.ChangeShapes Go.WideShapes Go.ChangeAt Go.RowKit

set_option maxRecDepth 100000 in
set_option maxHeartbeats 1000000 in
theorem journalText_spec (A : Option Addr) (n c : Nat) (aa : List ActD) (w : World) (h : RdA w w.heap.size A n c aa) (hn : n ≤ 1099511627776) :
    Calls Tryd.prog 8 #[.slice A n c] w fun e w' => e = .returned (.string ⟨(jT aa).toArray⟩) ∧ Below w.heap.size w w' := by
  have hcp := h.2.cap
  have hcm := h.2.capMax
  unfold maxLen at hcm
  have H := Lib.hid h
  clear h
  go_enter Tryd.func8, Tryd.ntmps8
  go_wp2
  go_loopw [3, 4] (fun o i wr => ∃ (k : Nat) (q : ByteArray), k ≤ n ∧ i = .int .i64 k ∧ o = .string q ∧ Hid (q.data.toList = (aa.take k).flatMap aL) ∧ Hid (∀ x ∈ aa.take k, aT x ≠ []) ∧ q.size ≤ 8 * k ∧ Below w.heap.size w wr) (fun _ i _ => n - (intOf i).toNat)
  case atStart => exact ⟨0, ⟨#[]⟩, by omega, rfl, rfl, Lib.hid rfl, Lib.hid (by simp), by decide, Below.refl _ _⟩
  case round =>
    obtain ⟨k, q, hk, rfl, rfl, hq, hg, hqs, hbel⟩ := hrel
    have HB := Lib.hid hbel
    clear hbel
    by_cases hlt : k < n
    · obtain ⟨b, off, a, rfl, hb, ha, q0, q1⟩ := (H.out.up HB.out).get hlt
      have HA := Lib.hid ha
      obtain ⟨ak, an⟩ := a
      have q0' : wr.cell? ⟨b, off + k * 2, none⟩ = some (.int .i64 ak) := q0
      have q1' : wr.cell? ⟨b, off + k * 2 + 1, none⟩ = some (.int .i64 an) := q1
      clear q0 q1 ha
      go_wp2_with fail
      refine (actText_spec ak an _).mono ?_
      rintro e w2 ⟨rfl, hb2⟩
      have c0 : w2.cell? ⟨b, off + k * 2, none⟩ = some (.int .i64 ak) := (bcells hb2 b _ hb).trans q0'
      have c1 : w2.cell? ⟨b, off + k * 2 + 1, none⟩ = some (.int .i64 an) := (bcells hb2 b _ hb).trans q1'
      have HB2 : Hid (Below w.heap.size w w2) := Lib.hid (HB.out.trans (hb2.mono HB.out.size))
      clear hb2 q0' q1'
      obtain ⟨t, ht⟩ : ∃ t : ByteArray, (⟨(actT ak an).toArray⟩ : ByteArray) = t := ⟨_, rfl⟩
      have htl : t.data.toList = aT ⟨ak, an⟩ := by rw [← ht]; rfl
      have hts : t.size ≤ 7 := by rw [Lib.size_eq, htl]; exact aT_len _
      have HT := Lib.hid htl
      have HTT := Lib.hid ht
      rw [ht]
      clear ht htl
      by_cases he : t.data.toList = []
      · have b0 : t.toList.isEmpty = true := by rw [Lib.toList_data, he]; rfl
        have HE : Hid (jT aa = []) := Lib.hid (jT_bad HA.out (by rw [← HT.out]; exact he))
        clear he
        go_wp2
        go_ret
        exact ⟨ret_ba (a := ⟨#[]⟩) (by rw [HE.out]), HB2.out⟩
      · have b0 : t.toList.isEmpty = false := by rw [Lib.toList_data]; cases h : t.data.toList with | nil => exact absurd h he | cons x y => rfl
        have HG : Hid (∀ x ∈ aa.take (k + 1), aT x ≠ []) := Lib.hid (good_last HA.out hg.out (by rw [← HT.out]; exact he))
        clear he
        go_wp2_with fail
        refine (actText_spec ak an _).mono ?_
        rintro e w3 ⟨rfl, hb3⟩
        have HB3 : Hid (Below w.heap.size w w3) := Lib.hid (HB2.out.trans (hb3.mono HB2.out.size))
        clear hb3 c0 c1
        rw [HTT.out]
        have hs2 : (q ++ t ++ ⟨#[10]⟩ : ByteArray).size = q.size + t.size + 1 := by rw [ByteArray.size_append, ByteArray.size_append]; rfl
        have HQ2 : Hid ((q ++ t ++ ⟨#[10]⟩ : ByteArray).data.toList = (aa.take (k + 1)).flatMap aL) := Lib.hid (by
          rw [ByteArray.data_append, ByteArray.data_append, Array.toList_append, Array.toList_append, hq.out, HT.out, flat_last HA.out]; simp [aL])
        have HS2 : Hid ((q ++ t ++ ⟨#[10]⟩ : ByteArray).size ≤ 8 * (k + 1)) := Lib.hid (by omega)
        have n1 : ¬ 9223372036854775807 < q.size + t.size := by omega
        have n2 : ¬ 9223372036854775807 < q.size + t.size + 1 := by omega
        clear hs2
        go_wp2
        go_roundw
        case rel => exact ⟨k + 1, _, by omega, by go_num, rfl, HQ2, HG, HS2.out, HB3.out⟩
        case measure => simp [intOf]; omega
    · have hke : k = n := by omega
      have hl : aa.take k = aa := by rw [hke, ← H.out.1, List.take_length]
      have HE : Hid (jT aa = q.data.toList) := Lib.hid (by
        rw [hq.out, hl]; exact jT_good (by have := hg.out; rwa [hl] at this))
      clear hke hl
      go_wp2
      go_ret
      exact ⟨ret_ba (by rw [HE.out]), HB.out⟩
theorem IsB.later {B b : Nat} {l : List UInt8} {w w' : World} (h : IsB B b l w) (hb : Below w.heap.size w w') : IsB B b l w' := by
  rcases h with h | h
  · refine .inl ?_
    obtain ⟨hB, v, hbk, hown, hne⟩ := h
    have hlt : b < w.heap.size := (Array.getElem?_eq_some_iff.1 hbk).1
    exact ⟨hB, v, (hb.block b hlt).trans hbk, ownsRow_heap hown fun k hk => hb.block k (hown.lt k hk).2, hne⟩
  · refine .inr ?_
    obtain ⟨hB, v, hbk, hown, hne⟩ := h
    have hlt : b < w.heap.size := (Array.getElem?_eq_some_iff.1 hbk).1
    exact ⟨hB, v, (hb.block b hlt).trans hbk, ownsRow_heap hown fun k hk => hb.block k (hown.lt k hk).2, hne⟩
set_option maxRecDepth 100000 in
set_option maxHeartbeats 1000000 in
theorem journalText_impl (A : Option Addr) (n c : Nat) (aa : List ActD) (w : World) (h : RdA w w.heap.size A n c aa) (hn : n ≤ 1099511627776) :
    Calls Tryd.prog 10 #[.slice A n c] w fun e w' => e = .returned (.string ⟨(jT aa).toArray⟩) ∧ Below w.heap.size w w' := by
  have hcp := h.2.cap
  have hcm := h.2.capMax
  unfold maxLen at hcm
  have H := Lib.hid h
  clear h
  obtain ⟨b0, hb0⟩ : ∃ b, w.heap.size = b := ⟨_, rfl⟩
  have HI0 : Hid (IsB w.heap.size b0 [] (w.alloc (.cells #[.pointer none, .slice none 0 0] 46))) := Lib.hid (by rw [← hb0]; exact Lib.fresh_isBuilder _ _ w)
  have HB0 : Hid (Below w.heap.size w (w.alloc (.cells #[.pointer none, .slice none 0 0] 46))) := Lib.hid ((Below.refl _ _).alloc (Nat.le_refl _) _)
  go_enter Tryd.func10, Tryd.ntmps10
  go_wp2
  try rw [hb0]
  clear hb0
  go_loopw [9] (fun i wr => ∃ k : Nat, k ≤ n ∧ i = .int .i64 k ∧ Hid (IsB w.heap.size b0 ((aa.take k).flatMap aL) wr) ∧ Hid (∀ x ∈ aa.take k, aT x ≠ []) ∧ Below w.heap.size w wr) (fun i _ => n - (intOf i).toNat)
  case atStart => exact ⟨0, by omega, rfl, HI0, Lib.hid (by simp), HB0.out⟩
  case round =>
    clear HI0 HB0
    obtain ⟨k, hk, rfl, hI, hg, hbel⟩ := hrel
    have HB := Lib.hid hbel
    clear hbel
    by_cases hlt : k < n
    · obtain ⟨b, off, a, rfl, hb, ha, q0, q1⟩ := (H.out.up HB.out).get hlt
      have HA := Lib.hid ha
      obtain ⟨ak, an⟩ := a
      have q0' : wr.cell? ⟨b, off + k * 2, none⟩ = some (.int .i64 ak) := q0
      have q1' : wr.cell? ⟨b, off + k * 2 + 1, none⟩ = some (.int .i64 an) := q1
      have hfl := Lib.hid (flat_len (aa.take k))
      have hkl : (aa.take k).length ≤ k := List.length_take_le _ _
      have HI1 : Hid (IsB w.heap.size b0 ((aa.take k).flatMap aL) (wr.alloc (.cells #[.int .i64 ak, .int .i64 an] 31))) := Lib.hid (hI.out.later ((Below.refl _ _).alloc (Nat.le_refl _) _))
      have HB1 : Hid (Below w.heap.size w (wr.alloc (.cells #[.int .i64 ak, .int .i64 an] 31))) := Lib.hid (HB.out.alloc HB.out.size _)
      clear q0 q1 ha
      go_wp2_with fail
      refine (actText_impl ak an _).mono ?_
      rintro e w2 ⟨rfl, hb2⟩
      have HI2 := Lib.hid (HI1.out.later hb2)
      have HB2 : Hid (Below w.heap.size w w2) := Lib.hid (HB1.out.trans (hb2.mono HB1.out.size))
      clear hb2 q0' q1' HI1 HB1
      obtain ⟨t, ht⟩ : ∃ t : ByteArray, (⟨(actT ak an).toArray⟩ : ByteArray) = t := ⟨_, rfl⟩
      have htl : t.data.toList = aT ⟨ak, an⟩ := by rw [← ht]; rfl
      have hts : t.size ≤ 7 := by rw [Lib.size_eq, htl]; exact aT_len _
      have HT := Lib.hid htl
      rw [ht]
      clear ht htl
      by_cases he : t.data.toList = []
      · have b1 : t.toList.isEmpty = true := by rw [Lib.toList_data, he]; rfl
        have HE : Hid (jT aa = []) := Lib.hid (jT_bad HA.out (by rw [← HT.out]; exact he))
        clear he
        go_wp2
        go_ret
        exact ⟨ret_ba (a := ⟨#[]⟩) (by rw [HE.out]), HB2.out⟩
      · have b1 : t.toList.isEmpty = false := by rw [Lib.toList_data]; cases h : t.data.toList with | nil => exact absurd h he | cons x y => rfl
        have HG : Hid (∀ x ∈ aa.take (k + 1), aT x ≠ []) := Lib.hid (good_last HA.out hg.out (by rw [← HT.out]; exact he))
        clear he
        go_wp2_with fail
        refine (writeString_any w.heap.size b0 ((aa.take k).flatMap aL) t _ HI2.out (by have := hfl.out; omega) HB2.out.size).mono ?_
        rintro e w3 ⟨rfl, hi3, hb3⟩
        have HI3 := Lib.hid hi3
        have HB3 := Lib.hid (HB2.out.trans hb3)
        clear hi3 hb3 HI2 HB2
        go_wp2_with fail
        refine (writeByte_any w.heap.size b0 _ 10 _ HI3.out (by have := hfl.out; rw [List.length_append, ← Lib.size_eq]; omega) HB3.out.size).mono ?_
        rintro e w4 ⟨rfl, hi4, hb4⟩
        have HI4 : Hid (IsB w.heap.size b0 ((aa.take (k + 1)).flatMap aL) w4) := Lib.hid (by
          rw [flat_last HA.out]
          have e : (aa.take k).flatMap aL ++ aL ⟨ak, an⟩ = (aa.take k).flatMap aL ++ t.data.toList ++ [10] := by rw [HT.out]; simp [aL]
          rw [e]; exact hi4)
        have HB4 := Lib.hid (HB3.out.trans hb4)
        clear hi4 hb4 HI3 HB3
        go_wp2
        go_roundw
        case rel => exact ⟨k + 1, by omega, by go_num, HI4, HG, HB4.out⟩
        case measure => simp [intOf]; omega
    · have hke : k = n := by omega
      have hl : aa.take k = aa := by rw [hke, ← H.out.1, List.take_length]
      have HE : Hid (jT aa = (aa.take k).flatMap aL) := Lib.hid (by
        rw [hl]; exact jT_good (by have := hg.out; rwa [hl] at this))
      clear hke hl
      go_wp2_with fail
      refine (builderString_any w.heap.size b0 _ _ hI.out HB.out.size).mono ?_
      rintro e w2 ⟨rfl, hb2⟩
      have HB2 := Lib.hid (HB.out.trans hb2)
      rw [← HE.out]
      clear hb2
      go_wp2
      go_ret
      exact ⟨rfl, HB2.out⟩
end Go.Proofs.YtadlfffhddpajaaDoor
