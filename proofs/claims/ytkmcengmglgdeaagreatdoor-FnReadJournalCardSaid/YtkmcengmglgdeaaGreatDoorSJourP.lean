/- Joined texts: JourP, JourW, JourR. -/
import Derived.Test.YtkmcengmglgdeaaGreatDoorSActRS
import Derived.Test.YtkmcengmglgdeaaGreatDoorSBuilder
/- Journals of acts as they lie in memory: plain laws. -/
namespace Go.Proofs.YtkmcengmglgdeaaGreatDoor
set_option linter.unusedVariables false
set_option linter.unusedSimpArgs false

def aT (a : ActD) : List UInt8 := actT a.kind a.number
def aL (a : ActD) : List UInt8 := aT a ++ [10]
/-- the text of a journal -/
def jT (aa : List ActD) : List UInt8 := if aa.all (fun a => aT a != []) = true then aa.flatMap aL else []
def dP (aa : List ActD) : List (Int × Int) := aa.map fun a => (a.kind, a.number)
theorem jT_bad {aa : List ActD} {k : Nat} {a : ActD} (h : aa[k]? = some a) (ha : aT a = []) : jT aa = [] := by
 unfold jT
 rw [if_neg]
 rw [List.all_eq_true]
 intro hh
 have := hh a (List.mem_of_getElem? h)
 simp [ha] at this
theorem jT_good {aa : List ActD} (h : ∀ a ∈ aa, aT a ≠ []) : jT aa = aa.flatMap aL := by
 unfold jT
 rw [if_pos]
 rw [List.all_eq_true]
 intro a ha
 simpa using h a ha
theorem aT_len (a : ActD) : (aT a).length ≤ 7 := by
 by_cases h : actT a.kind a.number = []
 ·unfold aT; rw [h]; simp
 ·exact (actT_has h).len
theorem flat_len (aa : List ActD) : (aa.flatMap aL).length ≤ 8 * aa.length := by
 induction aa with
 | nil => simp
 | cons a aa ih => have := aT_len a; simp [aL] at ih ⊢; omega
theorem jT_len (aa : List ActD) : (jT aa).length ≤ 8 * aa.length := by
 unfold jT
 split
 ·exact flat_len aa
 ·simp
theorem take_last {aa : List ActD} {k : Nat} {a : ActD} (h : aa[k]? = some a) : aa.take (k + 1) = aa.take k ++ [a] := by
 obtain ⟨hk, rfl⟩ := List.getElem?_eq_some_iff.1 h
 rw [List.take_succ_eq_append_getElem hk]
theorem flat_last {aa : List ActD} {k : Nat} {a : ActD} (h : aa[k]? = some a) : (aa.take (k + 1)).flatMap aL = (aa.take k).flatMap aL ++ aL a := by
 rw [take_last h, List.flatMap_append]; simp
theorem good_last {aa : List ActD} {k : Nat} {a : ActD} (h : aa[k]? = some a) (hg : ∀ x ∈ aa.take k, aT x ≠ []) (ha : aT a ≠ []) : ∀ x ∈ aa.take (k + 1), aT x ≠ [] := by
 rw [take_last h]
 intro x hx
 rcases List.mem_append.1 hx with hx | hx
 ·exact hg x hx
 ·rw [List.mem_singleton.1 hx]; exact ha
/-- what a text is read as -/
def rJ (s : List UInt8) : List ActD := dL (readJ [] s).1
def rN (s : List UInt8) : Nat := (readJ [] s).2
end Go.Proofs.YtkmcengmglgdeaaGreatDoor

/- JournalText of the program and of the reference. -/
namespace Go.Proofs.YtkmcengmglgdeaaGreatDoor
set_option linter.unusedVariables false
set_option linter.unusedSimpArgs false
open Go.ChangeShapes Go.WideShapes Go.ChangeAt Go.RowKit

set_option maxRecDepth 100000 in
set_option maxHeartbeats 1000000 in
theorem journalText_spec (A : Option Addr) (n c : Nat) (aa : List ActD) (w : World) (h : RdA w w.heap.size A n c aa) (hn : n ≤ 1099511627776) :
  Calls Tryz.prog 90 #[.slice A n c] w fun e w' => e = .returned (.string ⟨(jT aa).toArray⟩) ∧ Below w.heap.size w w' := by
 have hcp := h.2.cap
 have hcm := h.2.capMax
 unfold maxLen at hcm
 have H := Lib.hid h
 clear h
 go_enter Tryz.func90, Tryz.ntmps90
 go_wp2
 go_loopw [3, 4] (fun o i wr => ∃ (k : Nat) (q : ByteArray), k ≤ n ∧ i = .int .i64 k ∧ o = .string q ∧ Hid (q.data.toList = (aa.take k).flatMap aL) ∧ Hid (∀ x ∈ aa.take k, aT x ≠ []) ∧ q.size ≤ 8 * k ∧ Below w.heap.size w wr) (fun _ i _ => n - (intOf i).toNat)
 case atStart => exact ⟨0, ⟨#[]⟩, by omega, rfl, rfl, Lib.hid rfl, Lib.hid (by simp), by decide, Below.refl _ _⟩
 case round =>
  obtain ⟨k, q, hk, rfl, rfl, hq, hg, hqs, hbel⟩ := hrel
  have HB := Lib.hid hbel
  clear hbel
  by_cases hlt : k < n
  ·obtain ⟨b, off, a, rfl, hb, ha, q0, q1⟩ := (H.out.up HB.out).get hlt
   have HA := Lib.hid ha
   obtain ⟨ak, an⟩ := a
   have q0' : wr.cell? ⟨b, off + k * 2, none⟩ = some (.int .i64 ak) := q0
   have q1' : wr.cell? ⟨b, off + k * 2 + 1, none⟩ = some (.int .i64 an) := q1
   clear q0 q1 ha
   go_wp2_with fail
   refine (actText_spec ak an _).mono ?_
   rintro e w2 ⟨rfl, hb2⟩
   have c0 : w2.cell? ⟨b, off + k * 2, none⟩ = some (.int .i64 ak) := (bcells hb2 b _ hb).trans q0'
   have c1 : w2.cell? ⟨b, off + k * 2 + 1, none⟩ = some (.int .i64 an) := (bcells hb2 b _ hb).trans q1'
   have HB2 : Hid (Below w.heap.size w w2) := Lib.hid (HB.out.trans (hb2.mono HB.out.size))
   clear hb2 q0' q1'
   obtain ⟨t, ht⟩ : ∃ t : ByteArray, (⟨(actT ak an).toArray⟩ : ByteArray) = t := ⟨_, rfl⟩
   have htl : t.data.toList = aT ⟨ak, an⟩ := by rw [← ht]; rfl
   have hts : t.size ≤ 7 := by rw [Lib.size_eq, htl]; exact aT_len _
   have HT := Lib.hid htl
   have HTT := Lib.hid ht
   rw [ht]
   clear ht htl
   by_cases he : t.data.toList = []
   ·have b0 : t.toList.isEmpty = true := by rw [Lib.toList_data, he]; rfl
    have HE : Hid (jT aa = []) := Lib.hid (jT_bad HA.out (by rw [← HT.out]; exact he))
    clear he
    go_wp2
    go_ret
    exact ⟨ret_ba (a := ⟨#[]⟩) (by rw [HE.out]), HB2.out⟩
   ·have b0 : t.toList.isEmpty = false := by rw [Lib.toList_data]; cases h : t.data.toList with | nil => exact absurd h he | cons x y => rfl
    have HG : Hid (∀ x ∈ aa.take (k + 1), aT x ≠ []) := Lib.hid (good_last HA.out hg.out (by rw [← HT.out]; exact he))
    clear he
    go_wp2_with fail
    refine (actText_spec ak an _).mono ?_
    rintro e w3 ⟨rfl, hb3⟩
    have HB3 : Hid (Below w.heap.size w w3) := Lib.hid (HB2.out.trans (hb3.mono HB2.out.size))
    clear hb3 c0 c1
    rw [HTT.out]
    have hs2 : (q ++ t ++ ⟨#[10]⟩ : ByteArray).size = q.size + t.size + 1 := by rw [ByteArray.size_append, ByteArray.size_append]; rfl
    have HQ2 : Hid ((q ++ t ++ ⟨#[10]⟩ : ByteArray).data.toList = (aa.take (k + 1)).flatMap aL) := Lib.hid (by
     rw [ByteArray.data_append, ByteArray.data_append, Array.toList_append, Array.toList_append, hq.out, HT.out, flat_last HA.out]; simp [aL])
    have HS2 : Hid ((q ++ t ++ ⟨#[10]⟩ : ByteArray).size ≤ 8 * (k + 1)) := Lib.hid (by omega)
    have n1 : ¬ 9223372036854775807 < q.size + t.size := by omega
    have n2 : ¬ 9223372036854775807 < q.size + t.size + 1 := by omega
    clear hs2
    go_wp2
    go_roundw
    case rel => exact ⟨k + 1, _, by omega, by go_num, rfl, HQ2, HG, HS2.out, HB3.out⟩
    case measure => simp [intOf]; omega
  ·have hke : k = n := by omega
   have hl : aa.take k = aa := by rw [hke, ← H.out.1, List.take_length]
   have HE : Hid (jT aa = q.data.toList) := Lib.hid (by
    rw [hq.out, hl]; exact jT_good (by have := hg.out; rwa [hl] at this))
   clear hke hl
   go_wp2
   go_ret
   exact ⟨ret_ba (by rw [HE.out]), HB.out⟩
theorem IsB.later {B b : Nat} {l : List UInt8} {w w' : World} (h : IsB B b l w) (hb : Below w.heap.size w w') : IsB B b l w' := by
 rcases h with h | h
 ·refine .inl ?_
  obtain ⟨hB, v, hbk, hown, hne⟩ := h
  have hlt : b < w.heap.size := (Array.getElem?_eq_some_iff.1 hbk).1
  exact ⟨hB, v, (hb.block b hlt).trans hbk, ownsRow_heap hown fun k hk => hb.block k (hown.lt k hk).2, hne⟩
 ·refine .inr ?_
  obtain ⟨hB, v, hbk, hown, hne⟩ := h
  have hlt : b < w.heap.size := (Array.getElem?_eq_some_iff.1 hbk).1
  exact ⟨hB, v, (hb.block b hlt).trans hbk, ownsRow_heap hown fun k hk => hb.block k (hown.lt k hk).2, hne⟩
set_option maxRecDepth 100000 in
set_option maxHeartbeats 1000000 in
theorem journalText_impl (A : Option Addr) (n c : Nat) (aa : List ActD) (w : World) (h : RdA w w.heap.size A n c aa) (hn : n ≤ 1099511627776) :
  Calls Tryz.prog 40 #[.slice A n c] w fun e w' => e = .returned (.string ⟨(jT aa).toArray⟩) ∧ Below w.heap.size w w' := by
 have hcp := h.2.cap
 have hcm := h.2.capMax
 unfold maxLen at hcm
 have H := Lib.hid h
 clear h
 obtain ⟨b0, hb0⟩ : ∃ b, w.heap.size = b := ⟨_, rfl⟩
 have HI0 : Hid (IsB w.heap.size b0 [] (w.alloc (.cells #[.pointer none, .slice none 0 0] 117))) := Lib.hid (by rw [← hb0]; exact Lib.fresh_isBuilder _ _ w)
 have HB0 : Hid (Below w.heap.size w (w.alloc (.cells #[.pointer none, .slice none 0 0] 117))) := Lib.hid ((Below.refl _ _).alloc (Nat.le_refl _) _)
 go_enter Tryz.func40, Tryz.ntmps40
 go_wp2
 try rw [hb0]
 clear hb0
 go_loopw [9] (fun i wr => ∃ k : Nat, k ≤ n ∧ i = .int .i64 k ∧ Hid (IsB w.heap.size b0 ((aa.take k).flatMap aL) wr) ∧ Hid (∀ x ∈ aa.take k, aT x ≠ []) ∧ Below w.heap.size w wr) (fun i _ => n - (intOf i).toNat)
 case atStart => exact ⟨0, by omega, rfl, HI0, Lib.hid (by simp), HB0.out⟩
 case round =>
  clear HI0 HB0
  obtain ⟨k, hk, rfl, hI, hg, hbel⟩ := hrel
  have HB := Lib.hid hbel
  clear hbel
  by_cases hlt : k < n
  ·obtain ⟨b, off, a, rfl, hb, ha, q0, q1⟩ := (H.out.up HB.out).get hlt
   have HA := Lib.hid ha
   obtain ⟨ak, an⟩ := a
   have q0' : wr.cell? ⟨b, off + k * 2, none⟩ = some (.int .i64 ak) := q0
   have q1' : wr.cell? ⟨b, off + k * 2 + 1, none⟩ = some (.int .i64 an) := q1
   have hfl := Lib.hid (flat_len (aa.take k))
   have hkl : (aa.take k).length ≤ k := List.length_take_le _ _
   have HI1 : Hid (IsB w.heap.size b0 ((aa.take k).flatMap aL) (wr.alloc (.cells #[.int .i64 ak, .int .i64 an] 64))) := Lib.hid (hI.out.later ((Below.refl _ _).alloc (Nat.le_refl _) _))
   have HB1 : Hid (Below w.heap.size w (wr.alloc (.cells #[.int .i64 ak, .int .i64 an] 64))) := Lib.hid (HB.out.alloc HB.out.size _)
   clear q0 q1 ha
   go_wp2_with fail
   refine (actText_impl ak an _).mono ?_
   rintro e w2 ⟨rfl, hb2⟩
   have HI2 := Lib.hid (HI1.out.later hb2)
   have HB2 : Hid (Below w.heap.size w w2) := Lib.hid (HB1.out.trans (hb2.mono HB1.out.size))
   clear hb2 q0' q1' HI1 HB1
   obtain ⟨t, ht⟩ : ∃ t : ByteArray, (⟨(actT ak an).toArray⟩ : ByteArray) = t := ⟨_, rfl⟩
   have htl : t.data.toList = aT ⟨ak, an⟩ := by rw [← ht]; rfl
   have hts : t.size ≤ 7 := by rw [Lib.size_eq, htl]; exact aT_len _
   have HT := Lib.hid htl
   rw [ht]
   clear ht htl
   by_cases he : t.data.toList = []
   ·have b1 : t.toList.isEmpty = true := by rw [Lib.toList_data, he]; rfl
    have HE : Hid (jT aa = []) := Lib.hid (jT_bad HA.out (by rw [← HT.out]; exact he))
    clear he
    go_wp2
    go_ret
    exact ⟨ret_ba (a := ⟨#[]⟩) (by rw [HE.out]), HB2.out⟩
   ·have b1 : t.toList.isEmpty = false := by rw [Lib.toList_data]; cases h : t.data.toList with | nil => exact absurd h he | cons x y => rfl
    have HG : Hid (∀ x ∈ aa.take (k + 1), aT x ≠ []) := Lib.hid (good_last HA.out hg.out (by rw [← HT.out]; exact he))
    clear he
    go_wp2_with fail
    refine (writeString_any w.heap.size b0 ((aa.take k).flatMap aL) t _ HI2.out (by have := hfl.out; omega) HB2.out.size).mono ?_
    rintro e w3 ⟨rfl, hi3, hb3⟩
    have HI3 := Lib.hid hi3
    have HB3 := Lib.hid (HB2.out.trans hb3)
    clear hi3 hb3 HI2 HB2
    go_wp2_with fail
    refine (writeByte_any w.heap.size b0 _ 10 _ HI3.out (by have := hfl.out; rw [List.length_append, ← Lib.size_eq]; omega) HB3.out.size).mono ?_
    rintro e w4 ⟨rfl, hi4, hb4⟩
    have HI4 : Hid (IsB w.heap.size b0 ((aa.take (k + 1)).flatMap aL) w4) := Lib.hid (by
     rw [flat_last HA.out]
     have e : (aa.take k).flatMap aL ++ aL ⟨ak, an⟩ = (aa.take k).flatMap aL ++ t.data.toList ++ [10] := by rw [HT.out]; simp [aL]
     rw [e]; exact hi4)
    have HB4 := Lib.hid (HB3.out.trans hb4)
    clear hi4 hb4 HI3 HB3
    go_wp2
    go_roundw
    case rel => exact ⟨k + 1, by omega, by go_num, HI4, HG, HB4.out⟩
    case measure => simp [intOf]; omega
  ·have hke : k = n := by omega
   have hl : aa.take k = aa := by rw [hke, ← H.out.1, List.take_length]
   have HE : Hid (jT aa = (aa.take k).flatMap aL) := Lib.hid (by
    rw [hl]; exact jT_good (by have := hg.out; rwa [hl] at this))
   clear hke hl
   go_wp2_with fail
   refine (builderString_any w.heap.size b0 _ _ hI.out HB.out.size).mono ?_
   rintro e w2 ⟨rfl, hb2⟩
   have HB2 := Lib.hid (HB.out.trans hb2)
   rw [← HE.out]
   clear hb2
   go_wp2
   go_ret
   exact ⟨rfl, HB2.out⟩
end Go.Proofs.YtkmcengmglgdeaaGreatDoor

/- ReadJournal of the program and of the reference. -/
namespace Go.Proofs.YtkmcengmglgdeaaGreatDoor
set_option linter.unusedVariables false
set_option linter.unusedSimpArgs false
open Go.ChangeShapes Go.WideShapes Go.ChangeAt Go.RowKit

theorem St.addAct {w wr w' : World} {L : List HRes} {v v' : Value} {aa : List ActD} {a : ActD} {cs : Array Value} (S : St w wr (rActs v aa :: L))
  (hown : w'.ownsRow 0 64 2 v' (aa.length + 1) (Go.Proofs.YtkmcengmglgdeaaGreatDoor.ints (flatA aa) ++ [.int .i64 a.kind, .int .i64 a.number])) (hg : (wr.alloc (.cells cs 64)).grownBy w' v.ownBlock)
  (hat : v'.ownBlock = v.ownBlock ∨ v'.ownBlock = some (wr.alloc (.cells cs 64)).heap.size) : St w w' (rActs v' (aa ++ [a]) :: L) :=
 ((S.alloc1 cs 64).rid 1 rfl).appA 0 (bs := [a]) rfl rfl hown hg hat
theorem readJ_nl {s : ByteArray} {k : Nat} (h : k < s.size) (hc : s[k].toNat = 10) (cur : List UInt8) : readJ cur (s.data.toList.drop k) = (match readA cur with | none => ([], 0) | some a => (a :: (readJ [] (s.data.toList.drop (k + 1))).1, cur.length + 1 + (readJ [] (s.data.toList.drop (k + 1))).2)) := by
 rw [drop_at s k h]
 simp only [readJ]
 rw [if_pos (UInt8.toNat_inj.1 hc)]
 cases readA cur <;> rfl
theorem readJ_on {s : ByteArray} {k : Nat} (h : k < s.size) (hc : s[k].toNat ≠ 10) (cur : List UInt8) : readJ cur (s.data.toList.drop k) = readJ (cur ++ [s[k]]) (s.data.toList.drop (k + 1)) := by
 rw [drop_at s k h]
 simp only [readJ]
 rw [if_neg (fun e => hc (by rw [e]; rfl))]
theorem ActR.none_ {e : Ending} (h : ActR none e) : e = .returned (.tuple #[.agg #[.int .i64 0, .int .i64 0], .bool false]) := h
theorem ActR.some_ {e : Ending} {k n : Int} (h : ActR (some (k, n)) e) : e = .returned (.tuple #[.agg #[.int .i64 k, .int .i64 n], .bool true]) := h
theorem ret_vi {v : Value} {a b : Int} (h : a = b) : Ending.returned (.tuple #[v, .int .i64 a]) = .returned (.tuple #[v, .int .i64 b]) := by rw [h]
/-- what is read, behind the acts aa, which end at fr -/
def JAt (l : List UInt8) (aa : List ActD) (fr : Nat) (cur rest : List UInt8) : Prop := rJ l = aa ++ dL (readJ cur rest).1 ∧ rN l = fr + (readJ cur rest).2
set_option maxRecDepth 100000 in
set_option maxHeartbeats 1000000 in
theorem readJournal_spec (s : ByteArray) (w : World) (hs : s.size ≤ 1099511627776) :
  Calls Tryz.prog 35 #[.string s] w fun e w' => ∃ v, e = .returned (.tuple #[v, .int .i64 (rN s.data.toList : Nat)]) ∧ St w w' [rActs v (rJ s.data.toList)] := by
 have HS0 : Hid (St w (w.alloc (.cells #[] 64)) [rActs (.slice (some ⟨w.heap.size, 0, none⟩) 0 0) []]) := Lib.hid (St.newA w _ rfl)
 go_enter Tryz.func35, Tryz.ntmps35
 go_wp2
 go_loopw [4, 5, 6] (fun o f i wr => ∃ (k fr : Nat) (aa : List ActD), k ≤ s.size ∧ fr ≤ k ∧ aa.length ≤ k ∧ i = .int .i64 k ∧ f = .int .i64 fr ∧ Hid (JAt s.data.toList aa fr ((s.data.toList.drop fr).take (k - fr)) (s.data.toList.drop k)) ∧ St w wr [rActs o aa]) (fun _ _ i _ => s.size - (intOf i).toNat)
 case atStart => exact ⟨0, 0, [], by omega, by omega, by simp, rfl, rfl, Lib.hid ⟨by simp [rJ], by simp [rN]⟩, HS0.out⟩
 case round =>
  clear HS0
  obtain ⟨k, fr, aa, hk, hfk, hal, rfl, rfl, hj, S⟩ := hrel
  have HS := Lib.hid S
  clear S
  have hwsz := HS.out.size
  by_cases hlt : k < s.size
  ·have hb : s[k].toNat < 256 := UInt8.toNat_lt _
   by_cases hc : s[k].toNat = 10
   ·have HX : Hid ((s.extract fr k).data.toList = (s.data.toList.drop fr).take (k - fr)) := Lib.hid (Lib.extract_data s fr k)
    have hxs : (s.extract fr k).size ≤ 1099511627776 := by rw [Lib.size_eq, HX.out, List.length_take]; omega
    have hcl : ((s.data.toList.drop fr).take (k - fr)).length = k - fr := by rw [List.length_take, List.length_drop, ← Lib.size_eq]; omega
    have HJ : Hid (JAt s.data.toList aa fr ((s.data.toList.drop fr).take (k - fr)) (s.data.toList.drop k)) := hj
    have hc1 : ((s[k].toNat : Int) == 10) = true := by simp [hc]
    have c1 : (0 : Int) ≤ (fr : Int) := by omega
    have c2 : (fr : Int) ≤ (k : Int) := by omega
    have c3 : (k : Int) ≤ (s.size : Int) := by omega
    have HNL := Lib.hid (readJ_nl hlt hc ((s.data.toList.drop fr).take (k - fr)))
    have HCL := Lib.hid hcl
    clear hc hcl
    go_wp2_with fail
    refine (readAct_spec (s.extract fr k) _ hxs).mono ?_
    rintro e w2 ⟨hr2, hb2⟩
    rw [HX.out] at hr2
    have HS2 := Lib.hid (HS.out.quiet hb2)
    clear hb2 hxs
    cases hra : readA ((s.data.toList.drop fr).take (k - fr)) with
    | none =>
     have HE : Hid (rJ s.data.toList = aa ∧ rN s.data.toList = fr) := Lib.hid (by
      have := HJ.out; unfold JAt at this; rw [HNL.out, hra] at this; simpa [dL] using this)
     have HS3 := Lib.hid (((HS2.out.alloc1 #[.int .i64 0, .int .i64 0] 64).rid 1 rfl))
     rw [hra] at hr2
     obtain rfl := hr2.none_
     clear hra hr2
     go_wp2
     go_ret2
     exact ⟨_, ret_vi (by rw [HE.out.2]), by rw [HE.out.1]; exact HS3.out⟩
    | some a =>
     obtain ⟨ak, an⟩ := a
     have HE : Hid (JAt s.data.toList (aa ++ [⟨ak, an⟩]) (k + 1) ((s.data.toList.drop (k + 1)).take (k + 1 - (k + 1))) (s.data.toList.drop (k + 1))) := Lib.hid (by
      have := HJ.out; unfold JAt at this ⊢; rw [HNL.out, hra, HCL.out] at this
      simp only [Nat.sub_self, List.take_zero]
      refine ⟨by rw [this.1]; simp [dL, dA], by rw [this.2]; simp only []; omega⟩)
     have HS3 := Lib.hid (((HS2.out.alloc1 #[.int .i64 ak, .int .i64 an] 64).rid 1 rfl))
     have HO := Lib.hid (HS3.out.ownA 0 rfl)
     rw [hra] at hr2
     obtain rfl := hr2.some_
     clear hra hr2 HS2 HJ
     go_wp2_with (at_builtin; refine wp_app elAct rfl (.tmp 32) (.tmp 34) rfl 0 _ aa.length (Go.Proofs.YtkmcengmglgdeaaGreatDoor.ints (flatA aa)) rfl (HO.out.alloc _) _ _ 1 1 [.int .i64 ak, .int .i64 an] rfl (RdRow.newAt (w2.alloc (.cells #[.int .i64 ak, .int .i64 an] 64)) [.int .i64 ak, .int .i64 an] 64 2 1 (w2.heap.size + 1) (by simp) rfl (by unfold maxLen; omega)) (by simp [Value.oneCell']) (by omega) (by omega) (Nat.zero_le _) ?_; intro v4 w4 hown4 hg4 hat4; have HS4 := Lib.hid (HS3.out.addAct (a := ⟨ak, an⟩) hown4 hg4 hat4); clear hown4 hg4 hat4)
     go_wp2
     go_roundw
     case rel => exact ⟨k + 1, k + 1, _, by omega, by omega, by simp; omega, by go_num, by go_num, HE, HS4.out⟩
     case measure => simp [intOf]; omega
   ·have HW : Hid (JAt s.data.toList aa fr ((s.data.toList.drop fr).take (k + 1 - fr)) (s.data.toList.drop (k + 1))) := Lib.hid (by
     have := hj.out; unfold JAt at this ⊢; rw [readJ_on hlt hc] at this; rw [piece_snoc hfk hlt]; exact this)
    have hc1 : ((s[k].toNat : Int) == 10) = false := by simp; omega
    clear hc
    go_wp2
    go_roundw
    case rel => exact ⟨k + 1, fr, aa, by omega, by omega, by omega, by go_num, rfl, HW, HS.out⟩
    case measure => simp [intOf]; omega
  ·have hke : k = s.size := by omega
   have HE : Hid (rJ s.data.toList = aa ∧ rN s.data.toList = fr) := Lib.hid (by
    have := hj.out; unfold JAt at this; rw [drop_end s k (by omega)] at this; simpa [readJ, dL] using this)
   clear hke
   go_wp2
   go_ret2
   exact ⟨_, ret_vi (by rw [HE.out.2]), by rw [HE.out.1]; exact HS.out⟩
set_option maxRecDepth 100000 in
set_option maxHeartbeats 1000000 in
theorem readJournal_impl (s : ByteArray) (w : World) (hs : s.size ≤ 1099511627776) :
  Calls Tryz.prog 34 #[.string s] w fun e w' => ∃ v, e = .returned (.tuple #[v, .int .i64 (rN s.data.toList : Nat)]) ∧ St w w' [rActs v (rJ s.data.toList)] := by
 have HS0 : Hid (St w w [rActs (.slice none 0 0) []]) := Lib.hid (rActs_nil w w (Below.refl _ _))
 go_enter Tryz.func34, Tryz.ntmps34
 go_wp2
 go_loopw [4, 5] (fun o f wr => ∃ (fr : Nat) (aa : List ActD), fr ≤ s.size ∧ aa.length ≤ fr ∧ f = .int .i64 fr ∧ Hid (JAt s.data.toList aa fr [] (s.data.toList.drop fr)) ∧ St w wr [rActs o aa]) (fun _ f _ => s.size - (intOf f).toNat)
 case atStart => exact ⟨0, [], by omega, by simp, rfl, Lib.hid ⟨by simp [rJ], by simp [rN]⟩, HS0.out⟩
 case round =>
  clear HS0
  obtain ⟨fr, aa, hfk, hal, rfl, hj, S⟩ := hrel
  have HS := Lib.hid S
  clear S
  have HJ := Lib.hid hj.out
  have HX : Hid ((s.extract fr s.size).data.toList = s.data.toList.drop fr) := Lib.hid (by
   rw [Lib.extract_data]; exact List.take_of_length_le (by rw [List.length_drop, ← Lib.size_eq]; omega))
  have hxs : (s.extract fr s.size).size ≤ 1099511627776 := by rw [Lib.size_eq, HX.out, List.length_drop, ← Lib.size_eq]; omega
  have hdl : (s.data.toList.drop fr).length = s.size - fr := by rw [List.length_drop, ← Lib.size_eq]
  have HDL := Lib.hid hdl
  have c1 : (0 : Int) ≤ (fr : Int) := by omega
  have c2 : (fr : Int) ≤ (s.size : Int) := by omega
  clear hj hdl
  by_cases hm : (10 : UInt8) ∈ s.data.toList.drop fr
  ·obtain ⟨a, b, hab, hna⟩ := List.eq_append_cons_of_mem hm
   have HAB : Hid ((s.extract fr s.size).data.toList = a ++ 10 :: b) := Lib.hid (by rw [HX.out]; exact hab)
   have HNA := Lib.hid hna
   have hlen : a.length + 1 + b.length = s.size - fr := by rw [← HDL.out, hab]; simp; omega
   have HB : Hid (s.data.toList.drop (fr + (a.length + 1)) = b) := Lib.hid (by
    rw [← List.drop_drop, hab, show a ++ 10 :: b = (a ++ [10]) ++ b by simp]
    exact List.drop_left' (by simp))
   have HJL := Lib.hid (readJ_line hna [] b)
   have HD := Lib.hid hab
   clear hm hab hna
   go_wp2_with fail
   refine (cut_at (s.extract fr s.size) 10 a b _ HNA.out HAB.out (by omega)).mono ?_
   rintro e w2 ⟨rfl, nd, rfl⟩
   have HS2 := Lib.hid (HS.out.drewN nd)
   obtain ⟨w2, hw2⟩ : ∃ w2, wr.drewN nd = w2 := ⟨_, rfl⟩
   rw [hw2] at HS2
   rw [hw2]
   clear hw2
   obtain ⟨t, ht⟩ : ∃ t : ByteArray, (⟨a.toArray⟩ : ByteArray) = t := ⟨_, rfl⟩
   have htl : t.data.toList = a := by rw [← ht]
   have hts : t.size = a.length := by rw [Lib.size_eq, htl]
   have HTL := Lib.hid htl
   have HTS := Lib.hid hts
   rw [ht]
   clear ht htl
   have hts' : t.size ≤ 1099511627776 := by omega
   have hts2 : fr + (t.size + 1) ≤ s.size := by omega
   clear hts hlen
   go_wp2_with fail
   refine (readAct_impl t _ (by omega)).mono ?_
   rintro e w3 ⟨hr3, hb3⟩
   rw [HTL.out] at hr3
   have HS3 := Lib.hid (HS2.out.quiet hb3)
   clear hb3
   cases hra : readA a with
   | none =>
    have HE : Hid (rJ s.data.toList = aa ∧ rN s.data.toList = fr) := Lib.hid (by
     have := HJ.out; unfold JAt at this; rw [HD.out, HJL.out, List.nil_append, hra] at this; simpa [dL] using this)
    have HS4 := Lib.hid (((HS3.out.alloc1 #[.int .i64 0, .int .i64 0] 64).rid 1 rfl))
    rw [hra] at hr3
    obtain rfl := hr3.none_
    clear hra hr3
    go_wp2
    go_ret2
    exact ⟨_, ret_vi (by rw [HE.out.2]), by rw [HE.out.1]; exact HS4.out⟩
   | some x =>
    obtain ⟨ak, an⟩ := x
    have HE : Hid (JAt s.data.toList (aa ++ [⟨ak, an⟩]) (fr + (t.size + 1)) [] (s.data.toList.drop (fr + (t.size + 1)))) := Lib.hid (by
     have := HJ.out; unfold JAt at this ⊢; rw [HD.out, HJL.out, List.nil_append, hra] at this
     rw [HTS.out, HB.out]
     exact ⟨by rw [this.1]; simp [dL, dA], by rw [this.2]; simp only []; omega⟩)
    have HS4 := Lib.hid (((HS3.out.alloc1 #[.int .i64 ak, .int .i64 an] 64).rid 1 rfl))
    have HO := Lib.hid (HS4.out.ownA 0 rfl)
    rw [hra] at hr3
    obtain rfl := hr3.some_
    clear hra hr3 HS3 HJ
    go_wp2_with (at_builtin; refine wp_app elAct rfl (.tmp 32) (.tmp 34) rfl 0 _ aa.length (Go.Proofs.YtkmcengmglgdeaaGreatDoor.ints (flatA aa)) rfl (HO.out.alloc _) _ _ 1 1 [.int .i64 ak, .int .i64 an] rfl (RdRow.newAt (w3.alloc (.cells #[.int .i64 ak, .int .i64 an] 64)) [.int .i64 ak, .int .i64 an] 64 2 1 (w3.heap.size + 1) (by simp) rfl (by unfold maxLen; omega)) (by simp [Value.oneCell']) (by omega) (by omega) (Nat.zero_le _) ?_; intro v5 w5 hown5 hg5 hat5; have HS5 := Lib.hid (HS4.out.addAct (a := ⟨ak, an⟩) hown5 hg5 hat5); clear hown5 hg5 hat5)
    go_wp2
    go_roundw
    case rel => exact ⟨fr + (t.size + 1), _, by omega, by simp; omega, by go_num, HE, HS5.out⟩
    case measure => simp [intOf]; omega
  ·have HM : Hid ((10 : UInt8) ∉ (s.extract fr s.size).data.toList) := Lib.hid (by rw [HX.out]; exact hm)
   have HE : Hid (rJ s.data.toList = aa ∧ rN s.data.toList = fr) := Lib.hid (by
    have := HJ.out; unfold JAt at this; rw [readJ_none hm] at this; simpa [dL] using this)
   clear hm
   go_wp2_with fail
   refine (cut_none (s.extract fr s.size) 10 _ HM.out).mono ?_
   rintro e w2 ⟨rfl, nd, rfl⟩
   have HS2 := Lib.hid (HS.out.drewN nd)
   go_wp2
   go_ret2
   exact ⟨_, ret_vi (by rw [HE.out.2]), by rw [HE.out.1]; exact HS2.out⟩
end Go.Proofs.YtkmcengmglgdeaaGreatDoor
