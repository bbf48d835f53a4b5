/- Joined texts: LawJU, SkipU, ReadP, LineA, ReadD, BookOr. -/
import Derived.Test.YtkmcengmglgdeaaGreatDoorSJourP
import Derived.Test.YtkmcengmglgdeaaGreatDoorSLawAT
import Derived.Test.YtkmcengmglgdeaaGreatDoorSRunB
import Derived.Test.YtkmcengmglgdeaaGreatDoorSDoI2
import Derived.Test.YtkmcengmglgdeaaGreatDoorSActR
import Derived.Test.YtkmcengmglgdeaaGreatDoorSPlanW
import Derived.Test.YtkmcengmglgdeaaGreatDoorSPush
import Derived.Test.YtkmcengmglgdeaaGreatDoorSReg
/- The draw of a journal; the walk of FnJournalText. -/
namespace Go.Proofs.YtkmcengmglgdeaaGreatDoor
set_option linter.unusedVariables false
set_option linter.unusedSimpArgs false
open Go.ChangeShapes Go.WideShapes Go.ChangeAt Go.RowKit

set_option maxRecDepth 100000 in
set_option maxHeartbeats 1000000 in
theorem l20Written_rd {w W : World} {g hi : Nat} (S : St w W [rRd w g hi]) (hh : hi ≤ 1000) :
  Calls Tryz.prog 91 #[.pointer (some ⟨g, 0, none⟩)] W fun e w' => ∃ v aa, e = .returned v ∧ aa.length ≤ 11 ∧ (∀ a ∈ aa, aT a ≠ []) ∧ St w w' [rActs v aa, rRd w g (hi + 500)] := by
 obtain ⟨g0, hg0⟩ : ∃ x, W.heap.size = x := ⟨_, rfl⟩
 have HS0 : Hid (St w (W.alloc (.cells #[] 64)) [rRd w g hi, rActs (.slice (some ⟨g0, 0, none⟩) 0 0) []]) := Lib.hid (S.call (St.newA W g0 hg0.symm))
 clear S
 go_enter Tryz.func91, Tryz.ntmps91
 go_wp2_with fail
 try rw [hg0]
 clear hg0
 refine (l20Book_rd HS0.out (by omega) 0).mono ?_
 rintro e w1 ⟨v1, b, rfl, s1⟩
 have HS1 := Lib.hid s1
 clear s1 HS0
 go_wp2_with fail
 refine (l20Acts_rd HS1.out (by omega)).mono ?_
 rintro e w2 ⟨v2, aa, rfl, hal, -, s2⟩
 have HS2 : Hid (St w w2 [rActs (.slice (some ⟨g0, 0, none⟩) 0 0) [], rRd w g (hi + 500), rActs v2 aa]) := Lib.hid (s2.pick [3, 0, 1] (by decide) rfl rfl)
 clear s2 HS1
 obtain ⟨A2, c2, rfl, hrd2⟩ := HS2.out.rdA 2 rfl
 obtain ⟨n, hn⟩ : ∃ n, aa.length = n := ⟨_, rfl⟩
 rw [hn] at HS2 hal hrd2
 rw [hn]
 clear hn hrd2
 go_wp2
 go_loopw [3, 5] (fun o i wr => ∃ (k : Nat) (bs : List ActD), k ≤ n ∧ i = .int .i64 k ∧ bs.length ≤ k ∧ Hid (∀ a ∈ bs, aT a ≠ []) ∧ St w wr [rActs o bs, rRd w g (hi + 500), rActs (.slice A2 n c2) aa]) (fun _ i _ => n - (intOf i).toNat)
 case atStart => exact ⟨0, [], by omega, rfl, by simp, Lib.hid (by simp), HS2.out⟩
 case round =>
  clear HS2
  obtain ⟨k, bs, hk, rfl, hbl, hg, S⟩ := hrel
  have HS := Lib.hid S
  clear S
  by_cases hlt : k < n
  ·obtain ⟨b, off, a, rfl, hb, ha, q0, q1⟩ := (HS.out.rdA' 2 rfl).get hlt
   have HA := Lib.hid ha
   obtain ⟨ak, an⟩ := a
   have q0' : wr.cell? ⟨b, off + k * 2, none⟩ = some (.int .i64 ak) := q0
   have q1' : wr.cell? ⟨b, off + k * 2 + 1, none⟩ = some (.int .i64 an) := q1
   clear q0 q1 ha
   go_wp2_with fail
   refine (actText_spec ak an _).mono ?_
   rintro e w3 ⟨rfl, hb3⟩
   have c0 : w3.cell? ⟨b, off + k * 2, none⟩ = some (.int .i64 ak) := (bcells hb3 b _ hb).trans q0'
   have c1 : w3.cell? ⟨b, off + k * 2 + 1, none⟩ = some (.int .i64 an) := (bcells hb3 b _ hb).trans q1'
   have HS3 := Lib.hid (HS.out.quiet hb3)
   clear hb3 q0' q1'
   obtain ⟨t, ht⟩ : ∃ t : ByteArray, (⟨(actT ak an).toArray⟩ : ByteArray) = t := ⟨_, rfl⟩
   have HT : Hid (t.data.toList = aT ⟨ak, an⟩) := Lib.hid (by rw [← ht]; rfl)
   rw [ht]
   clear ht
   by_cases he : t.data.toList = []
   ·have b0 : t.toList.isEmpty = true := by rw [Lib.toList_data, he]; rfl
    clear he
    go_wp2
    go_roundw
    case rel => exact ⟨k + 1, bs, by omega, by go_num, by omega, hg, HS3.out⟩
    case measure => simp [intOf]; omega
   ·have b0 : t.toList.isEmpty = false := by rw [Lib.toList_data]; cases h : t.data.toList with | nil => exact absurd h he | cons x y => rfl
    have HG : Hid (∀ a ∈ bs ++ [⟨ak, an⟩], aT a ≠ []) := Lib.hid (fun a ha => by
     rcases List.mem_append.1 ha with ha | ha
     ·exact hg.out a ha
     ·rw [List.mem_singleton.1 ha, ← HT.out]; exact he)
    have HO := Lib.hid (HS3.out.ownA 0 rfl)
    clear he
    go_wp2_with (at_builtin; refine wp_app elAct rfl (.tmp 23) (.tmp 28) rfl 0 _ bs.length (Go.Proofs.YtkmcengmglgdeaaGreatDoor.ints (flatA bs)) rfl (HO.out.alloc _) _ _ 1 1 [.int .i64 ak, .int .i64 an] rfl (RdRow.new w3 [.int .i64 ak, .int .i64 an] 64 2 1 rfl (by unfold maxLen; omega)) (by simp [Value.oneCell']) (by omega) (by omega) (Nat.zero_le _) ?_; intro v5 w5 hown5 hg5 hat5; have HS5 := Lib.hid (HS3.out.addAct (a := ⟨ak, an⟩) hown5 hg5 hat5); clear hown5 hg5 hat5)
    go_wp2
    go_roundw
    case rel => exact ⟨k + 1, _, by omega, by go_num, by simp; omega, HG, HS5.out⟩
    case measure => simp [intOf]; omega
  ·go_wp2
   go_ret
   exact ⟨_, bs, rfl, by omega, hg.out, HS.out.pick [0, 1] (by decide) rfl rfl⟩
end Go.Proofs.YtkmcengmglgdeaaGreatDoor

/- An operation of a region that is left out because its guard was itself left out, in one step. -/
namespace Go.Proofs.YtkmcengmglgdeaaGreatDoor
open Go.ChangeShapes Go.WideShapes Go.ChangeAt Go.RowKit

end Go.Proofs.YtkmcengmglgdeaaGreatDoor

/- Plain laws of a journal that is cut anywhere: what is read of a beginning are the first acts; their text is what was read. No program in sight. -/
namespace Go.Proofs.YtkmcengmglgdeaaGreatDoor
set_option linter.unusedVariables false
set_option linter.unusedSimpArgs false

theorem readJ_pre (s : List UInt8) : ∀ (cur : List UInt8) (k : Nat), (readJ cur (s.take k)).1 <+: (readJ cur s).1 := by
 induction s with
 | nil => intro cur k; simp
 | cons c cs ih =>
  intro cur k
  cases k with
  | zero => simp [readJ]
  | succ k =>
   rw [List.take_succ_cons]
   simp only [readJ]
   split
   ·cases readA cur with
    | none => simp
    | some a => exact (List.prefix_cons_inj a).2 (ih [] k)
   ·exact ih (cur ++ [c]) k
/-- the text of what was read -/
theorem readJ_back (s : List UInt8) : ∀ cur, (readJ cur s).1.flatMap (fun a => actT a.1 a.2 ++ [10]) = (cur ++ s).take (readJ cur s).2 ∧ ∀ a ∈ (readJ cur s).1, actT a.1 a.2 ≠ [] ∧ 0 ≤ a.1 ∧ a.1 ≤ 3 ∧ 0 ≤ a.2 ∧ a.2 ≤ 99 := by
 induction s with
 | nil => intro cur; simp [readJ]
 | cons c cs ih =>
  intro cur
  simp only [readJ]
  split
  ·rename_i hc
   cases h : readA cur with
   | none => simp
   | some a =>
    obtain ⟨k, n⟩ := a
    have h1 := actT_readA h
    have h2 := readA_ne h
    have h3 := readA_bound h
    obtain ⟨i1, i2⟩ := ih []
    simp only
    constructor
    ·rw [List.flatMap_cons, h1, i1, List.nil_append, hc]
     have e : cur ++ 10 :: cs = (cur ++ [10]) ++ cs := by simp
     have e2 : (cur ++ [10]).length = cur.length + 1 := by simp
     rw [e, ← e2, List.take_append, List.take_of_length_le (Nat.le_add_right _ _), Nat.add_sub_cancel_left]
    ·intro b hb
     rcases List.mem_cons.1 hb with rfl | hb
     ·exact ⟨by rw [h1]; exact h2, h3⟩
     ·exact i2 b hb
  ·obtain ⟨i1, i2⟩ := ih (cur ++ [c])
   exact ⟨by rw [i1]; simp, i2⟩
theorem dL_map (l : List (Int × Int)) : dL l = l.map fun a => (⟨a.1, a.2⟩ : ActD) := rfl
theorem rJ_pre (s : List UInt8) (k : Nat) : rJ (s.take k) = (rJ s).take (rJ (s.take k)).length := by
 obtain ⟨t, ht⟩ := readJ_pre s [] k
 unfold rJ
 rw [← ht, dL_map, dL_map, List.map_append, List.take_left' (by simp)]
theorem rJ_pre_len (s : List UInt8) (k : Nat) : (rJ (s.take k)).length ≤ (rJ s).length := by
 have h := congrArg List.length (rJ_pre s k)
 rw [List.length_take] at h; omega
theorem rN_le (s : List UInt8) : rN s ≤ s.length := by
 have := (readJ_le [] s).1
 unfold rN; simpa using this
theorem rN_pre (s : List UInt8) (k : Nat) : rN (s.take k) ≤ k := by
 have := rN_le (s.take k)
 rw [List.length_take] at this; omega
theorem rJ_mem {s : List UInt8} {a : ActD} (h : a ∈ rJ s) : aT a ≠ [] ∧ (0 ≤ a.kind ∧ a.kind ≤ 3) ∧ 0 ≤ a.number ∧ a.number ≤ 99 := by
 unfold rJ at h
 rw [dL_map] at h
 obtain ⟨x, hx, rfl⟩ := List.mem_map.1 h
 have := (readJ_back s []).2 x hx
 exact ⟨this.1, ⟨this.2.1, this.2.2.1⟩, this.2.2.2.1, this.2.2.2.2⟩
theorem jT_rJ (s : List UInt8) : jT (rJ s) = s.take (rN s) := by
 rw [jT_good fun a ha => (rJ_mem ha).1]
 have h := (readJ_back s []).1
 rw [List.nil_append] at h
 unfold rN
 rw [← h]
 unfold rJ
 rw [dL_map, List.flatMap_map]
 rfl
end Go.Proofs.YtkmcengmglgdeaaGreatDoor

/- BookLine of the program at a line that is the text of an act: the act is done, and the answer is ok or no. -/
namespace Go.Proofs.YtkmcengmglgdeaaGreatDoor
set_option linter.unusedVariables false
set_option linter.unusedSimpArgs false
open Go.ChangeShapes Go.WideShapes Go.ChangeAt Go.RowKit

/-- the answer to an act -/
def ansA (d : Bool) : ByteArray := if d = true then ⟨#[111, 107]⟩ else ⟨#[110, 111]⟩
set_option maxRecDepth 100000 in
set_option maxHeartbeats 1000000 in
theorem bookLine_act (v : Value) (b : BookD) (s : ByteArray) (k m : Int) (w : World) (h : RdB w w.heap.size v b) (hok : bookOk b = true) (hs : s.size ≤ 9223372036854775807) (hr : readA s.data.toList = some (k, m)) :
  Calls Tryz.prog 9 #[v, .string s] w (Gives w (fun v => .tuple #[v, .string (ansA (bookDid b ⟨k, m⟩))]) fun v => [rBook v (bookDo b ⟨k, m⟩)]) := by
 obtain ⟨G, gn, gc, G', n', c', D', dn, dc, hv⟩ := h.form
 subst hv
 obtain ⟨os, hos⟩ : ∃ x, b.order.start = x := ⟨_, rfl⟩
 obtain ⟨st, hst⟩ : ∃ x, b.state = x := ⟨_, rfl⟩
 rw [hos, hst] at h ⊢
 have HS0 : Hid (St w ((w.alloc (.cells #[.int .i64 os, .slice G gn gc, .slice G' n' c', .slice D' dn dc, .int .i64 st] 28)).alloc (.cells #[.int .i64 0, .slice none 0 0, .slice none 0 0, .slice none 0 0, .int .i64 0] 28)) [rBlk w.heap.size 28 #[.int .i64 os, .slice G gn gc, .slice G' n' c', .slice D' dn dc, .int .i64 st], rBlk (w.heap.size + 1) 28 #[.int .i64 0, .slice none 0 0, .slice none 0 0, .slice none 0 0, .int .i64 0]]) := Lib.hid (by
  have := ((St.refl w).alloc #[.int .i64 os, .slice G gn gc, .slice G' n' c', .slice D' dn dc, .int .i64 st] 28).alloc #[.int .i64 0, .slice none 0 0, .slice none 0 0, .slice none 0 0, .int .i64 0] 28
  simpa using this)
 have HB := Lib.hid h
 have HOK := Bx.mk hok
 have HR := Bx.mk hr
 have HMW : Bx ((Lit.int .i64 m).wf = true) := Bx.mk (wf_i64_mk (by have := readA_bound hr; omega))
 obtain ⟨x, hx⟩ : ∃ x, bookDo b ⟨k, m⟩ = x := ⟨_, rfl⟩
 obtain ⟨did, hdid⟩ : ∃ x, bookDid b ⟨k, m⟩ = x := ⟨_, rfl⟩
 have HX := Bx.mk hx
 have HDID := Bx.mk hdid
 obtain ⟨xs0, hxs⟩ : ∃ y, x.order.start = y := ⟨_, rfl⟩
 obtain ⟨xt, hxt⟩ : ∃ y, x.state = y := ⟨_, rfl⟩
 have HXS := Bx.mk hxs
 have HXT := Bx.mk hxt
 rw [hx, hdid]
 have HS := Bx.mk hs
 clear h hok hr hos hst hx hdid hxs hxt hs
 go_enter Tryz.func9, Tryz.ntmps9
 go_wp2_with fail
 refine (bookValid_impl _ b _ (HB.out.up HS0.out.below)).mono ?_
 rw [HOK.out]
 rintro e w1 ⟨rfl, hb1⟩
 have HS1 := Lib.hid (HS0.out.quiet hb1)
 clear hb1 HS0
 have q0 : ∀ j, w1.cell? ⟨w.heap.size, j, none⟩ = _ := HS1.out.cells 0 rfl
 go_wp2_with fail
 refine (readAct_impl s _ HS.out).mono ?_
 rw [HR.out]
 rintro e w2 ⟨he, hb2⟩
 have he' : e = .returned (.tuple #[.agg #[.int .i64 k, .int .i64 m], .bool true]) := he
 subst he'
 clear he
 obtain ⟨g6, hg6⟩ : ∃ y, w2.heap.size = y := ⟨_, rfl⟩
 have HS2 : Hid (St w (w2.alloc (.cells #[.int .i64 k, .int .i64 m] 64)) [rBlk w.heap.size 28 #[.int .i64 os, .slice G gn gc, .slice G' n' c', .slice D' dn dc, .int .i64 st], rBlk (w.heap.size + 1) 28 #[.int .i64 0, .slice none 0 0, .slice none 0 0, .slice none 0 0, .int .i64 0], rBlk g6 64 #[.int .i64 k, .int .i64 m]]) := Lib.hid (by rw [← hg6]; exact (HS1.out.quiet hb2).alloc _ _)
 clear hb2 HS1 q0
 have q0 : ∀ j, (w2.alloc (.cells #[.int .i64 k, .int .i64 m] 64)).cell? ⟨w.heap.size, j, none⟩ = _ := HS2.out.cells 0 rfl
 go_wp2_with fail
 try rw [hg6]
 refine (bookDo_impl _ b k m _ (HB.out.up HS2.out.below) HMW.out).mono ?_
 rw [HX.out, HDID.out]
 rintro e w3 ⟨v3, rfl, s3⟩
 obtain ⟨X1, i1, j1, X2, i2, j2, X3, i3, j3, hv⟩ := s3.formB 0 rfl
 rw [HXS.out, HXT.out] at hv
 subst hv
 obtain ⟨g8, hg8⟩ : ∃ y, w3.heap.size = y := ⟨_, rfl⟩
 have HS3 : Hid (St w (w3.alloc (.cells #[.int .i64 xs0, .slice X1 i1 j1, .slice X2 i2 j2, .slice X3 i3 j3, .int .i64 xt] 28)) [rBlk w.heap.size 28 #[.int .i64 os, .slice G gn gc, .slice G' n' c', .slice D' dn dc, .int .i64 st], rBlk (w.heap.size + 1) 28 #[.int .i64 0, .slice none 0 0, .slice none 0 0, .slice none 0 0, .int .i64 0], rBlk g6 64 #[.int .i64 k, .int .i64 m], rBook (.agg #[.int .i64 xs0, .slice X1 i1 j1, .slice X2 i2 j2, .slice X3 i3 j3, .int .i64 xt]) x, rBlk g8 28 #[.int .i64 xs0, .slice X1 i1 j1, .slice X2 i2 j2, .slice X3 i3 j3, .int .i64 xt]]) := Lib.hid (by rw [← hg8]; exact (HS2.out.call s3).alloc _ _)
 clear s3 HS2 q0 hg6
 have q1 : ∀ j, (w3.alloc (.cells #[.int .i64 xs0, .slice X1 i1 j1, .slice X2 i2 j2, .slice X3 i3 j3, .int .i64 xt] 28)).cell? ⟨w.heap.size + 1, j, none⟩ = _ := HS3.out.cells 1 rfl
 have f1 := HS3.out.free 1 rfl
 have HS4 := Lib.hid ((HS3.out.set5 1 rfl (.int .i64 xs0) (.slice X1 i1 j1) (.slice X2 i2 j2) (.slice X3 i3 j3) (.int .i64 xt)).pick [3, 1] (by decide) rfl rfl)
 cases did with
 | true =>
  go_wp2
  have q2 := HS4.out.cells 1 rfl
  refine bodyPost_ret (v := .tuple #[.agg #[.int .i64 xs0, .slice X1 i1 j1, .slice X2 i2 j2, .slice X3 i3 j3, .int .i64 xt], .string ⟨#[111, 107]⟩]) (by simp [results, Tryz.results9, go_sem, q2]) rfl ⟨_, rfl, HS4.out.pick [0] (by decide) rfl rfl⟩
 | false =>
  go_wp2
  have q2 := HS4.out.cells 1 rfl
  refine bodyPost_ret (v := .tuple #[.agg #[.int .i64 xs0, .slice X1 i1 j1, .slice X2 i2 j2, .slice X3 i3 j3, .int .i64 xt], .string ⟨#[110, 111]⟩]) (by simp [results, Tryz.results9, go_sem, q2]) rfl ⟨_, rfl, HS4.out.pick [0] (by decide) rfl rfl⟩
end Go.Proofs.YtkmcengmglgdeaaGreatDoor

/- The draw of FnReadJournal. -/
namespace Go.Proofs.YtkmcengmglgdeaaGreatDoor
set_option linter.unusedVariables false
set_option linter.unusedSimpArgs false
open Go.ChangeShapes Go.WideShapes Go.ChangeAt Go.RowKit

theorem cutS (t : ByteArray) (k : Nat) (hk : k ≤ t.size) : ∀ w : World, (Instr.slice 9 (.string t) none (some (.int .i64 (k : Int))) none).run Tryz.prog w = .ok (.string (t.extract 0 k)) w := fun w => by
 rw [run_slice_string_to_if w _ t .i64 _ Tryz.underlying9, if_pos (by omega)]; rfl
set_option maxRecDepth 100000 in
set_option maxHeartbeats 1000000 in
theorem drawReadJournal (A : Option Addr) (n c : Nat) (xs : List Int) (w : World) (h : RdI .u8 w w.heap.size A n c xs) :
  Calls Tryz.prog 33 #[.slice A n c] w fun e w' => ∃ q : ByteArray, e = .returned (.string q) ∧ q.size ≤ 100 ∧ Below w.heap.size w w' := by
 have H := Lib.hid h
 clear h
 go_enter Tryz.func33, Tryz.ntmps33
 go_wp2_with fail
 refine (l20Open_rd (St.refl w) H.out).mono ?_
 rintro e w1 ⟨g, rfl, s1⟩
 have HS1 := Lib.hid s1
 clear s1
 go_wp2_with fail
 refine (l20Written_rd HS1.out (by omega)).mono ?_
 rintro e w2 ⟨v2, aa, rfl, hal, -, s2⟩
 obtain ⟨A2, c2, hv, -⟩ := s2.rdA 0 rfl
 obtain ⟨n2, hn2⟩ : ∃ n2, aa.length = n2 := ⟨_, rfl⟩
 rw [hn2] at hv hal
 subst hv
 have HS2 := Lib.hid (s2.swap2)
 have HN2 := Bx.mk hn2
 clear s2 HS1 hn2
 go_wp2_with fail
 refine (journalText_spec A2 n2 c2 aa _ (HS2.out.rdA' 1 rfl) (by omega)).mono ?_
 rintro e w3 ⟨rfl, hb3⟩
 have HS3 := Lib.hid (HS2.out.quiet hb3)
 clear hb3 HS2
 obtain ⟨t, ht⟩ : ∃ t : ByteArray, (⟨(jT aa).toArray⟩ : ByteArray) = t := ⟨_, rfl⟩
 have hts : t.size ≤ 88 := by
  rw [← ht, size_of_list]
  have := jT_len aa
  rw [HN2.out] at this
  omega
 rw [ht]
 clear ht
 go_wp2_with fail
 refine (pick_rd HS3.out (by omega) 3).mono ?_
 rintro e w5 ⟨x5, rfl, ⟨a1, a2, -⟩, s5⟩
 have HS5 := Lib.hid s5
 clear s5 HS3 a1 a2
 by_cases h5 : x5 = 0
 ·subst h5
  go_wp2_with fail
  refine (l20Spoil_rd HS5.out (by omega) t (by omega)).mono ?_
  rintro e w6 ⟨q, rfl, hq, s6⟩
  have HB := Lib.hid s6.below
  clear s6 HS5
  go_wp2
  go_ret
  exact ⟨q, rfl, by omega, HB.out⟩
 have hx5 : (x5 == 0) = false := beq_false_of_ne h5
 by_cases h6 : x5 = 1
 ·subst h6
  have hsz : ¬ 9223372036854775807 < (t.size : Int) := by omega
  have hw1 : IntKind.i64.wrap ((t.size : Int) + 1) = (t.size : Int) + 1 := IntWalk.i64_in _ (by omega)
  go_wp2_with fail
  refine (pick_rd HS5.out (by omega) ((t.size : Int) + 1)).mono ?_
  rintro e w6 ⟨x6, rfl, ⟨a1, a2, -⟩, s6⟩
  have a3 := a2 (by omega)
  obtain ⟨k, rfl⟩ := Int.eq_ofNat_of_zero_le a1
  have HB := Lib.hid s6.below
  have hk : k ≤ t.size := by omega
  have HA : ∀ w : World, (Instr.slice 9 (.string t) none (some (.int .i64 (k : Int))) none).run Tryz.prog w = .ok (.string (t.extract 0 k)) w := cutS t k hk
  have hqs : (t.extract 0 k).size ≤ 100 := by simp; omega
  obtain ⟨q, hq⟩ : ∃ q, t.extract 0 k = q := ⟨_, rfl⟩
  rw [hq] at HA hqs
  clear s6 HS5 a1 a2 a3 hq
  go_wp2
  go_ret
  exact ⟨q, rfl, hqs, HB.out⟩
 have hx6 : (x5 == 1) = false := beq_false_of_ne h6
 have HB := Lib.hid HS5.out.below
 go_wp2
 go_ret
 exact ⟨t, rfl, by omega, HB.out⟩
end Go.Proofs.YtkmcengmglgdeaaGreatDoor

/- A book that is an old one or a new thing: what a variable holds that begins as an old book and is then given new ones. -/
namespace Go.Proofs.YtkmcengmglgdeaaGreatDoor
set_option linter.unusedVariables false
set_option linter.unusedSimpArgs false
open Go.ChangeShapes Go.WideShapes Go.ChangeAt Go.RowKit

def rBookOr (w0 : World) (v : Value) (b : BookD) : HRes where
 at_ w F := (F = [] ∧ RdB w0 w0.heap.size v b) ∨ (rBook v b).at_ w F
 keep w w' F h hk := h.imp id fun h => (rBook v b).keep w w' F h hk
 lt w F h x hx := by
  rcases h with ⟨rfl, -⟩ | h
  ·cases hx
  ·exact (rBook v b).lt w F h x hx
 nd w F h := by
  rcases h with ⟨rfl, -⟩ | h
  ·exact List.nodup_nil
  ·exact (rBook v b).nd w F h
section
variable {w W W' : World} {L : List HRes} {v : Value} {b : BookD}
theorem St.rdBO (S : St w W L) (i : Nat) (hi : L[i]? = some (rBookOr w v b)) : RdB W W.heap.size v b := by
 obtain ⟨F, h, -⟩ := S.get i hi
 rcases h with ⟨-, h⟩ | h
 ·exact h.up S.below
 ·exact h.rd
theorem Sn.rdBO {M : Nat → Option HRes} (S : Sn w W M) (k : Nat) (hk : M k = some (rBookOr w v b)) : RdB W W.heap.size v b := by
 obtain ⟨F, h, -⟩ := S.get k hk
 rcases h with ⟨-, h⟩ | h
 ·exact h.up S.below
 ·exact h.rd
theorem St.oldBook (h : Below w.heap.size w W) (hb : RdB w w.heap.size v b) : St w W [rBookOr w v b] :=
 ⟨h, [[]], rfl, fun i R F hR hF => by
  match i with
  | 0 =>
   injection hR with hR; injection hF with hF; subst hR hF
   exact ⟨Or.inl ⟨rfl, hb⟩, by simp⟩
  | i + 1 => simp at hR, by simp⟩
theorem St.newBook (S : St w W (rBook v b :: L)) : St w W (rBookOr w v b :: L) := S.see fun F h _ => Or.inr h
end
end Go.Proofs.YtkmcengmglgdeaaGreatDoor
