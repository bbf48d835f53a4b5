
import Derived.Test.YtkmcengmglgdeaaGreatDoorSLineI
import Derived.Test.YtkmcengmglgdeaaGreatDoorSDoS
import Derived.Test.YtkmcengmglgdeaaGreatDoorSRightS
import Derived.Test.YtkmcengmglgdeaaGreatDoorSTaskTS
import Derived.Test.YtkmcengmglgdeaaGreatDoorSActR
import Derived.Deep.Cut
namespace Go.Proofs.YtkmcengmglgdeaaGreatDoor
set_option linter.unusedVariables false
set_option linter.unusedSimpArgs false
set_option maxRecDepth 100000
set_option maxHeartbeats 8000000
open Go.ChangeShapes Go.WideShapes Go.ChangeAt Go.RowKit
theorem proofRight_three (t : TaskD) (s : List UInt8) : proofRight t s = -1 ∨ proofRight t s = 0 ∨ proofRight t s = 1 := by
 unfold proofRight
 repeat' split
 all_goals simp
def wordB (b : Bool) (s : ByteArray) : ByteArray := if b then s else ⟨#[110, 111]⟩
theorem l10Word_any (b : Bool) (s : ByteArray) (w : World) :
  Calls Tryz.prog 57 #[.bool b, .string s] w fun e w' => e = .returned (.string (wordB b s)) ∧ w = w' := by
 cases b
 all_goals
  go_enter Tryz.func57, Tryz.ntmps57; go_wp2; go_ret; exact ⟨rfl, rfl⟩
theorem St.rowI {w W : World} {L : List HRes} (h : St w W L) (i : Nat) {g n c : Nat} {xs : List Int} (hi : L[i]? = some (rInts (.slice (some ⟨g, 0, none⟩) n c) xs)) (hn : xs.length = n) (k : Nat) (x : Int) (hx : xs[k]? = some x) : W.cell? ⟨g, k, none⟩ = some (.int .i64 x) := by
 obtain ⟨F, h1, -⟩ := h.get i hi; have hr : W.ownsRow 0 3 1 (.slice (some ⟨g, 0, none⟩) n c) n (Go.Proofs.YtkmcengmglgdeaaGreatDoor.ints xs) := hn ▸ h1.row; have hk := (List.getElem?_eq_some_iff.1 hx).1; rw [hr.cellAt k (by omega)]
 simp [Go.Proofs.YtkmcengmglgdeaaGreatDoor.ints, hx]
theorem St.ownI' {w W : World} {L : List HRes} (h : St w W L) (i : Nat) {v : Value} {n : Nat} {xs : List Int} (hi : L[i]? = some (rInts v xs)) (hn : xs.length = n) : W.ownsRow 0 3 1 v n (Go.Proofs.YtkmcengmglgdeaaGreatDoor.ints xs) := by
 obtain ⟨F, h1, -⟩ := h.get i hi; exact hn ▸ h1.row
theorem lineS_bad (v : Value) (b : BookD) (s : ByteArray) (w : World) (h : RdB w w.heap.size v b) (hok : bookOk b = false) :
  Calls Tryz.prog 10 #[v, .string s] w (SayR b s.data.toList w) := by
 unfold SayR
 rw [sayB_bad hok]; obtain ⟨G, gn, gc, G', n', c', D', dn, dc, hv⟩ := h.form; subst hv; obtain ⟨os, hos⟩ : ∃ x, b.order.start = x := ⟨_, rfl⟩; obtain ⟨st, hst⟩ : ∃ x, b.state = x := ⟨_, rfl⟩; rw [hos, hst] at h ⊢
 have HS0 : Hid (St w ((w.alloc (.cells #[.int .i64 os, .slice G gn gc, .slice G' n' c', .slice D' dn dc, .int .i64 st] 28)).alloc (.cells #[.int .i64 0, .slice none 0 0, .slice none 0 0, .slice none 0 0, .int .i64 0] 28)) [rBlk w.heap.size 28 #[.int .i64 os, .slice G gn gc, .slice G' n' c', .slice D' dn dc, .int .i64 st], rBlk (w.heap.size + 1) 28 #[.int .i64 0, .slice none 0 0, .slice none 0 0, .slice none 0 0, .int .i64 0]]) := Lib.hid (by
  have := ((St.refl w).alloc #[.int .i64 os, .slice G gn gc, .slice G' n' c', .slice D' dn dc, .int .i64 st] 28).alloc #[.int .i64 0, .slice none 0 0, .slice none 0 0, .slice none 0 0, .int .i64 0] 28
  simpa using this)
 have HB := Lib.hid h; have HOK := Bx.mk hok; have HOS := Bx.mk hos; have HSTT := Bx.mk hst; clear h hok hos hst; go_enter Tryz.func10, Tryz.ntmps10
 go_wp2_with fail
 refine (bookValid_spec _ b _ (HB.out.up HS0.out.below)).mono ?_; rw [HOK.out]; rintro e w1 ⟨rfl, hb1⟩; have HS1 := Lib.hid (HS0.out.quiet hb1); clear hb1 HS0; have q1 := HS1.out.cells 1 rfl; have f1 := HS1.out.free 1 rfl; go_wp2; refine bodyPost_ret (v := .tuple #[.agg #[.int .i64 0, .slice none 0 0, .slice none 0 0, .slice none 0 0, .int .i64 0], .string ⟨#[]⟩]) (by simp [results, Tryz.results10, go_sem, q1]) rfl ⟨.agg #[.int .i64 0, .slice none 0 0, .slice none 0 0, .slice none 0 0, .int .i64 0], rfl, ?_⟩; exact St.book0 (HS1.out.set5 1 rfl _ _ _ _ _).below
theorem lineS_valid (v : Value) (b : BookD) (s : ByteArray) (w : World) (h : RdB w w.heap.size v b) (hok : bookOk b = true) (hs : s.size ≤ 1099511627776) :
  Calls Tryz.prog 10 #[v, .string s] w (SayR b s.data.toList w) := by
 unfold SayR
 obtain ⟨G, gn, gc, G', n', c', D', dn, dc, hv⟩ := h.form; subst hv; obtain ⟨os, hos⟩ : ∃ x, b.order.start = x := ⟨_, rfl⟩; obtain ⟨st, hst⟩ : ∃ x, b.state = x := ⟨_, rfl⟩; rw [hos, hst] at h ⊢
 have HS0 : Hid (St w ((w.alloc (.cells #[.int .i64 os, .slice G gn gc, .slice G' n' c', .slice D' dn dc, .int .i64 st] 28)).alloc (.cells #[.int .i64 0, .slice none 0 0, .slice none 0 0, .slice none 0 0, .int .i64 0] 28)) [rBlk w.heap.size 28 #[.int .i64 os, .slice G gn gc, .slice G' n' c', .slice D' dn dc, .int .i64 st], rBlk (w.heap.size + 1) 28 #[.int .i64 0, .slice none 0 0, .slice none 0 0, .slice none 0 0, .int .i64 0]]) := Lib.hid (by
  have := ((St.refl w).alloc #[.int .i64 os, .slice G gn gc, .slice G' n' c', .slice D' dn dc, .int .i64 st] 28).alloc #[.int .i64 0, .slice none 0 0, .slice none 0 0, .slice none 0 0, .int .i64 0] 28
  simpa using this)
 have HB := Lib.hid h; have HOK := Bx.mk hok; have HOS := Bx.mk hos; have HSTT := Bx.mk hst; have hbp := bookOk_parts hok; have HTOK := Bx.mk hbp.1; have HD40 : dn ≤ 1000 := by have := h.done.1.len; omega
 have HDN := Lib.hid h.done.1; have HDL : Hid (b.done.length = dn) := Lib.hid h.done.1.len; have HTO := Lib.hid h.order; have HTF := Lib.hid (h.from_ hst.symm); have HTFO := Bx.mk (taskOk_from hbp.1 hbp.2.2.1); have HWD := Bx.mk (withDone_self hok); obtain ⟨ro, hro⟩ : ∃ o, restFor b = o := ⟨_, rfl⟩; have HRO := Bx.mk hro; obtain ⟨aa, haa⟩ : ∃ o, endActs b = o := ⟨_, rfl⟩; have HAA := Bx.mk haa; obtain ⟨xs, hxs⟩ : ∃ o, deedsMay b.order st = o := ⟨_, rfl⟩; have HMY := Bx.mk hxs; have HXB : Hid (∀ x ∈ xs, 0 ≤ x ∧ x < 100) := Lib.hid fun x hx => by rw [← hxs] at hx; have := deedsMay_bd hx; omega
 have hxl6 : xs.length ≤ 6 := by rw [← hxs]; exact deedsMay_len b.order st
 obtain ⟨oA, hoA⟩ : ∃ o, readA s.data.toList = o := ⟨_, rfl⟩; have HR := Bx.mk hoA; have HSZ := Lib.hid hs; obtain ⟨pb, hpb⟩ : ∃ x, (sayB b s.data.toList).1 = x := ⟨_, rfl⟩; obtain ⟨ans, hans⟩ : ∃ x, (⟨(sayB b s.data.toList).2.toArray⟩ : ByteArray) = x := ⟨_, rfl⟩; rw [hpb, hans]; have HPB := Bx.mk hpb; have HANS := Bx.mk hans; obtain ⟨sn, hsn⟩ := Int.eq_ofNat_of_zero_le (show 0 ≤ st by rw [← hst]; exact hbp.2.2.1.1); have HSE := Bx.mk hsn; have HSN : Hid (sn < 32) := Lib.hid (by have := hbp.2.2.1.2; rw [hst] at this; omega); have HSNE : Hid (b.state.toNat = sn) := Lib.hid (by rw [hst, hsn]; simp); have HDB : Hid (dn < 100000000000) := Lib.hid (by omega); have HWF := Lib.hid (haa ▸ endActs_wf b hok); have hlen : aa.length ≤ 2 := by rw [← haa]; exact endActs_len b
 clear h hok hos hst hs hbp hro haa hxs hoA hpb hans hsn; go_enter Tryz.func10, Tryz.ntmps10
 go_wp2_with fail
 refine (bookValid_spec _ b _ (HB.out.up HS0.out.below)).mono ?_; rw [HOK.out]; rintro e w1 ⟨rfl, hb1⟩; have HS1 := Lib.hid (HS0.out.quiet hb1); clear hb1 HS0; have q0 := HS1.out.cells 0 rfl
 go_wp2_with fail
 refine (l10Copy_any _ b D' dn dc b.done _ (HB.out.up HS1.out.below) HTOK.out (HDN.out.up HS1.out.below) HD40).mono ?_; rw [HWD.out]; rintro e w2 ⟨v2, rfl, s2⟩; obtain ⟨A1, n1, c1, A2, n2, c2, A3, n3, c3, hv⟩ := s2.formB 0 rfl; rw [HOS.out, HSTT.out] at hv; subst hv; obtain ⟨g6, hg6⟩ : ∃ y, w2.heap.size = y := ⟨_, rfl⟩; obtain ⟨g7, hg7⟩ : ∃ y, g6 + 1 = y := ⟨_, rfl⟩; have S2 : St w (w2.alloc (.cells #[.int .i64 os, .slice A1 n1 c1, .slice A2 n2 c2, .slice A3 n3 c3, .int .i64 st] 28)) [rBlk w.heap.size 28 #[.int .i64 os, .slice G gn gc, .slice G' n' c', .slice D' dn dc, .int .i64 st], rBlk (w.heap.size + 1) 28 #[.int .i64 0, .slice none 0 0, .slice none 0 0, .slice none 0 0, .int .i64 0], rBook (.agg #[.int .i64 os, .slice A1 n1 c1, .slice A2 n2 c2, .slice A3 n3 c3, .int .i64 st]) b, rBlk g6 28 #[.int .i64 os, .slice A1 n1 c1, .slice A2 n2 c2, .slice A3 n3 c3, .int .i64 st]] := by rw [← hg6]; exact (HS1.out.call s2).alloc _ _
 have q0 := S2.cells 0 rfl
 have HS2 : Hid (St w ((w2.alloc (.cells #[.int .i64 os, .slice A1 n1 c1, .slice A2 n2 c2, .slice A3 n3 c3, .int .i64 st] 28)).alloc (.cells #[.int .i64 st, .slice G gn gc, .slice G' n' c'] 26)) [rBlk w.heap.size 28 #[.int .i64 os, .slice G gn gc, .slice G' n' c', .slice D' dn dc, .int .i64 st], rBlk (w.heap.size + 1) 28 #[.int .i64 0, .slice none 0 0, .slice none 0 0, .slice none 0 0, .int .i64 0], rBook (.agg #[.int .i64 os, .slice A1 n1 c1, .slice A2 n2 c2, .slice A3 n3 c3, .int .i64 st]) b, rBlk g6 28 #[.int .i64 os, .slice A1 n1 c1, .slice A2 n2 c2, .slice A3 n3 c3, .int .i64 st], rBlk g7 26 #[.int .i64 st, .slice G gn gc, .slice G' n' c']]) := Lib.hid (by
  have := S2.alloc #[.int .i64 st, .slice G gn gc, .slice G' n' c'] 26
  rw [World.size_alloc, hg6, hg7] at this
  exact this)
 clear s2 S2 HS1
 go_wp2_with fail
 try simp only [World.size_alloc, hg6, hg7]
 refine (readAct_spec s _ HSZ.out).mono ?_; rw [HR.out]; rintro e w4 ⟨he, hb4⟩; obtain ⟨k0, m0, bo, he', hk0, hm0, hbo⟩ := he.form; subst he'; have HK0 := Bx.mk hk0; have HM0 := Bx.mk hm0; have HBO := Bx.mk hbo; clear he q0 hk0 hm0 hbo; obtain ⟨g8, hg8⟩ : ∃ y, w4.heap.size = y := ⟨_, rfl⟩; have HS4 : Hid (St w (w4.alloc (.cells #[.int .i64 k0, .int .i64 m0] 64)) [rBlk w.heap.size 28 #[.int .i64 os, .slice G gn gc, .slice G' n' c', .slice D' dn dc, .int .i64 st], rBlk (w.heap.size + 1) 28 #[.int .i64 0, .slice none 0 0, .slice none 0 0, .slice none 0 0, .int .i64 0], rBook (.agg #[.int .i64 os, .slice A1 n1 c1, .slice A2 n2 c2, .slice A3 n3 c3, .int .i64 st]) b, rBlk g6 28 #[.int .i64 os, .slice A1 n1 c1, .slice A2 n2 c2, .slice A3 n3 c3, .int .i64 st], rBlk g7 26 #[.int .i64 st, .slice G gn gc, .slice G' n' c'], rBlk g8 64 #[.int .i64 k0, .int .i64 m0]]) := Lib.hid (by rw [← hg8]; exact (HS2.out.quiet hb4).alloc _ _); clear hb4 HS2; have q0 := HS4.out.cells 0 rfl
 go_wp2_with fail
 try simp only [hg6, hg7, hg8]
 refine (restFor_spec _ b _ (HB.out.up HS4.out.below)).mono ?_; rw [HRO.out]; rintro e w5 ⟨v5, rfl, s5⟩; have S5 := HS4.out.call s5; clear s5 HS4 q0; obtain ⟨A5, d5, rfl, -⟩ := S5.rdI 6 rfl; have HS5 := Lib.hid S5; clear S5; have q0 := HS5.out.cells 0 rfl
 go_wp2_with fail
 refine (endActs_spec _ b _ (HB.out.up HS5.out.below)).mono ?_; rw [HAA.out]; rintro e w6 ⟨v6, rfl, s6⟩; have S6 := HS5.out.call s6; clear s6 HS5 q0; obtain ⟨A6, d6, rfl, hra⟩ := S6.rdA 7 rfl; have HRA := Lib.hid hra; have HS6 := Lib.hid S6; clear S6 hra; simp only [id]; have q0 := HS6.out.cells 0 rfl
 go_wp2_with fail
 refine (deedsMay_spec _ b.order st _ (HTO.out.up HS6.out.below)).mono ?_; rw [HMY.out]; rintro e w7 ⟨v7, rfl, s7⟩; have S7 := HS6.out.call s7; clear s7 HS6 q0; obtain ⟨A7, d7, rfl, -⟩ := S7.rdI 8 rfl; have HS7 := Lib.hid S7; clear S7; simp only [id]; have q0 := HS7.out.cells 0 rfl; have q1 := HS7.out.cells 1 rfl; have q6 := HS7.out.cells 3 rfl; have f1 := HS7.out.free 1 rfl
 cases oA with
 | none =>
  have hk0 : k0 = 0 := HK0.out; have hm0 : m0 = 0 := HM0.out; have hbo : bo = false := HBO.out; subst hk0 hm0 hbo
  by_cases hf : s.data.toList = finishW
  ·have hW := hf; clear hf; have hpb := HPB.out; have hans := HANS.out; rw [hW, sayB_fin HOK.out, HAA.out] at hpb hans
   simp only at hpb hans
   have HX := Bx.mk hpb; obtain ⟨xs0, hxs0⟩ : ∃ y, pb.order.start = y := ⟨_, rfl⟩; obtain ⟨xt, hxt⟩ : ∃ y, pb.state = y := ⟨_, rfl⟩; have HXS := Bx.mk hxs0; have HXT := Bx.mk hxt; have b0 : s.toList = [102, 105, 110, 105, 115, 104] := by rw [Lib.toList_data, hW]; rfl
   obtain ⟨al, hal⟩ : ∃ x, aa.length = x := ⟨_, rfl⟩; have HAL := Lib.hid hal; rw [hal] at hlen hans; have HRA2 : Hid (RdA w7 w7.heap.size A6 al d6 aa) := Lib.hid (by rw [← hal]; exact HS7.out.rdA' 7 rfl); have HA := Bx.mk hans.symm; rw [hal]; clear hal hpb hans hW hxs0 hxt
   by_cases h0 : al = 0
   ·subst h0; have HRN : Bx (bookRun b [] = (b, 0)) := Bx.mk (bookRun_nil HOK.out); have hx : b = pb := by have := HX.out; rw [List.length_eq_zero_iff.1 HAL.out, HRN.out] at this; exact this
    subst hx; have HS9 := Lib.hid ((HS7.out.set5 1 rfl (.int .i64 os) (.slice A1 n1 c1) (.slice A2 n2 c2) (.slice A3 n3 c3) (.int .i64 st)).pick [2, 1] (by decide) rfl rfl); go_wp2; have z0 := HS9.out.cells 1 rfl; refine bodyPost_ret (v := .tuple #[.agg #[.int .i64 os, .slice A1 n1 c1, .slice A2 n2 c2, .slice A3 n3 c3, .int .i64 st], .string ⟨#[110, 111, 110, 101]⟩]) (by simp [results, Tryz.results10, go_sem, z0]) rfl ⟨.agg #[.int .i64 os, .slice A1 n1 c1, .slice A2 n2 c2, .slice A3 n3 c3, .int .i64 st], by rw [HA.out] <;> rfl, HS9.out.pick [0] (by decide) rfl rfl⟩
   have h0i : ((al : Int) == 0) = false := beq_false_of_ne (by omega); have HA2 : Bx (ans = ⟨okW.toArray⟩) := Bx.mk (by rw [HA.out, if_neg h0]); clear h0 HA; have HA := HA2
   go_wp2_with fail
   refine (bookRun_spec _ b A6 al d6 aa _ (HB.out.up HS7.out.below) HRA2.out HWF.out).mono ?_; rw [HX.out]; rintro e w8 ⟨v8, rfl, s8⟩; obtain ⟨X1, i1, j1, X2, i2, j2, X3, i3, j3, hv⟩ := s8.formB 0 rfl; rw [HXS.out, HXT.out] at hv; subst hv; obtain ⟨g9, hg9⟩ : ∃ y, w8.heap.size = y := ⟨_, rfl⟩; have HS9 : Hid (St w (w8.alloc (.cells #[.int .i64 xs0, .slice X1 i1 j1, .slice X2 i2 j2, .slice X3 i3 j3, .int .i64 xt] 28)) [rBlk (w.heap.size + 1) 28 #[.int .i64 0, .slice none 0 0, .slice none 0 0, .slice none 0 0, .int .i64 0], rBook (.agg #[.int .i64 xs0, .slice X1 i1 j1, .slice X2 i2 j2, .slice X3 i3 j3, .int .i64 xt]) pb, rBlk g9 28 #[.int .i64 xs0, .slice X1 i1 j1, .slice X2 i2 j2, .slice X3 i3 j3, .int .i64 xt]]) := Lib.hid (by rw [← hg9]; exact ((HS7.out.call s8).alloc _ _).pick [1, 9, 10] (by decide) rfl rfl); clear s8 HS7 q0 q1 q6 f1; have q1 := HS9.out.cells 0 rfl; have q9 := HS9.out.cells 2 rfl; have f1 := HS9.out.free 0 rfl; have HS10 := Lib.hid ((HS9.out.set5 0 rfl (.int .i64 xs0) (.slice X1 i1 j1) (.slice X2 i2 j2) (.slice X3 i3 j3) (.int .i64 xt)).pick [1, 0] (by decide) rfl rfl); go_wp2; have z0 := HS10.out.cells 1 rfl; refine bodyPost_ret (v := .tuple #[.agg #[.int .i64 xs0, .slice X1 i1 j1, .slice X2 i2 j2, .slice X3 i3 j3, .int .i64 xt], .string ⟨#[111, 107]⟩]) (by simp [results, Tryz.results10, go_sem, z0]) rfl ⟨.agg #[.int .i64 xs0, .slice X1 i1 j1, .slice X2 i2 j2, .slice X3 i3 j3, .int .i64 xt], by rw [HA.out] <;> rfl, HS10.out.pick [0] (by decide) rfl rfl⟩
  have hpb := HPB.out; have hans := HANS.out; rw [sayB_ask HOK.out HR.out hf] at hpb hans
  simp only at hpb hans
  subst hpb
  by_cases h0 : s.data.toList = stateW
  ·have hW := h0; clear h0 hf; have HA : Bx (ans = ⟨(letT sn).toArray⟩) := Bx.mk (by rw [← hans, hW]; unfold askT; rw [if_pos rfl, HSNE.out]); have b0 : s.toList = [115, 116, 97, 116, 101] := by rw [Lib.toList_data, hW]; rfl
   clear hW hans; have HS8 := Lib.hid (HS7.out.pick [0, 1, 2, 3, 4] (by decide) rfl rfl)
   go_upto_region 18 with (fail)
   clear q0 q1 q6 f1 HS7 b0
   refine wpr (σ := Unit)
    (fun _ i => match i with
     | 0 => .agg #[.int .i64 os, .slice A1 n1 c1, .slice A2 n2 c2, .slice A3 n3 c3, .int .i64 st]
     | 1 => .pointer (some ⟨w.heap.size, 4, none⟩)
     | 2 => .int .i64 st
     | 3 => .string ⟨(letT sn).toArray⟩
     | 5 => .string ⟨(letT sn).toArray⟩
     | _ => undef)
    (fun D _ wx => Sn w wx fun i => match i with
     | 0 => some (rBlk w.heap.size 28 #[.int .i64 os, .slice G gn gc, .slice G' n' c', .slice D' dn dc, .int .i64 st])
     | 1 => some (rBlk (w.heap.size + 1) 28 (if D 4 = true then #[.int .i64 os, .slice A1 n1 c1, .slice A2 n2 c2, .slice A3 n3 c3, .int .i64 st] else #[.int .i64 0, .slice none 0 0, .slice none 0 0, .slice none 0 0, .int .i64 0]))
     | 2 => some (rBook (.agg #[.int .i64 os, .slice A1 n1 c1, .slice A2 n2 c2, .slice A3 n3 c3, .int .i64 st]) b)
     | 3 => some (rBlk g6 28 #[.int .i64 os, .slice A1 n1 c1, .slice A2 n2 c2, .slice A3 n3 c3, .int .i64 st])
     | 4 => some (rBlk g7 26 #[.int .i64 st, .slice G gn gc, .slice G' n' c'])
     | _ => none)
    () ?_ ?_ ?_
   ·intro D hD; refine ((Sn.of_st HS8.out).quiet ((Below.refl _ _).drew)).congr fun i => ?_
    match i with
    | 0 => rfl
    | 1 => simp only [hD 4 (by decide)]; rfl
    | 2 | 3 | 4 => rfl
    | q + 5 => rfl
   ·refine Cs (fun D _ wx hR _ hd _ _ hs K hK => ?_) ?_
    ·have e6 := hs.o 6 (.pointer (some ⟨g6, 0, none⟩)); clear hs; have qk := (hR.blk 3 rfl).cell; go_simp; exact hK () wx sv hR
    refine Cs (fun D _ wx hR _ hd _ _ hs K hK => ?_) ?_
    ·have e2 := hs.o 2 (.pointer (some ⟨w.heap.size, 0, none⟩)); clear hs; go_simp; exact hK () wx sv hR
    refine Cs (fun D _ wx hR _ hd _ _ hs K hK => ?_) ?_
    ·have e88 := hs.v 1 88 hd; clear hs; have qk := (hR.blk 0 rfl).cell; go_simp; exact hK () wx sv hR
    refine Cs (fun D _ wx hR _ hd _ _ hs K hK => ?_) ?_
    ·have e89 := hs.v 2 89 hd; have g89 := getQ e89; clear hs; have hse := HSE.out; go_simp; refine (l6Letters_any sn HSN.out _).mono ?_; rintro e2 w2 ⟨rfl, hb2⟩; exact hK () w2 sv (hR.quiet hb2)
    refine Cs (fun D _ wx hR (hDi : D 4 = false) hd _ _ hs K hK => ?_) ?_
    ·have e4 := hs.o 4 (.pointer (some ⟨(w.heap.size + 1), 0, none⟩)); have e87 := hs.v 0 87 hd; clear hs; have kb : Blk wx (w.heap.size + 1) 28 #[.int .i64 0, .slice none 0 0, .slice none 0 0, .slice none 0 0, .int .i64 0] := hR.blk 1 (by simp only [hDi] <;> rfl); have f0 := kb.frozen; have qk := kb.cell; go_simp
     exact hK () _ sv ((hR.set5 1 (by simp only [hDi]; rfl) _ _ _ _ _).congr
      (fun i => by
       match i with
       | 0 | 1 | 2 | 3 | 4 => rfl
       | q + 5 => exact (if_neg (show ¬ (q + 5 = 1) by omega)).symm))
    refine Cs (fun D _ wx hR _ hd _ _ hs K hK => ?_) ?_
    ·have e90 := hs.v 3 90 hd; clear hs; go_simp; exact hK () wx sv hR
    exact StepAll.nil
   ·intro D _ wx hR hD; simp only [putA, Act.put, List.setIfInBounds_toArray, List.set_cons_zero, List.set_cons_succ]; have HS9 : Hid (St w wx [rBook (.agg #[.int .i64 os, .slice A1 n1 c1, .slice A2 n2 c2, .slice A3 n3 c3, .int .i64 st]) b, rBlk (w.heap.size + 1) 28 #[.int .i64 os, .slice A1 n1 c1, .slice A2 n2 c2, .slice A3 n3 c3, .int .i64 st]]) := Lib.hid (hR.to_st [2, 1] (by decide) (by simp only [List.map, hD 4 (by decide)] <;> rfl)); clear hR hD; have z0 := HS9.out.cells 1 rfl; go_wp2; refine bodyPost_ret (v := .tuple #[.agg #[.int .i64 os, .slice A1 n1 c1, .slice A2 n2 c2, .slice A3 n3 c3, .int .i64 st], .string ⟨(letT sn).toArray⟩]) (by simp [results, Tryz.results10, go_sem, z0]) rfl ⟨.agg #[.int .i64 os, .slice A1 n1 c1, .slice A2 n2 c2, .slice A3 n3 c3, .int .i64 st], by rw [HA.out] <;> rfl, HS9.out.pick [0] (by decide) rfl rfl⟩
  by_cases h1 : s.data.toList = taskW
  ·have hW := h1; clear h1 h0 hf; have HA : Bx (ans = ⟨(taskT b.order).toArray⟩) := Bx.mk (by rw [← hans, hW]; unfold askT; rw [if_neg (by decide), if_pos rfl]); have b0 : s.toList = [116, 97, 115, 107] := by rw [Lib.toList_data, hW]; rfl
   clear hW hans; have HS8 := Lib.hid (HS7.out.pick [0, 1, 2, 3, 4] (by decide) rfl rfl)
   go_upto_region 20 with (fail)
   clear q0 q1 q6 f1 HS7 b0
   refine wpr (σ := Unit)
    (fun _ i => match i with
     | 0 => .agg #[.int .i64 os, .slice A1 n1 c1, .slice A2 n2 c2, .slice A3 n3 c3, .int .i64 st]
     | 1 => .pointer (some ⟨w.heap.size, 0, none⟩)
     | 2 => .agg #[.int .i64 os, .slice G gn gc, .slice G' n' c']
     | 3 => .string ⟨(taskT b.order).toArray⟩
     | 5 => .string ⟨(taskT b.order).toArray⟩
     | _ => undef)
    (fun D _ wx => Sn w wx fun i => match i with
     | 0 => some (rBlk w.heap.size 28 #[.int .i64 os, .slice G gn gc, .slice G' n' c', .slice D' dn dc, .int .i64 st])
     | 1 => some (rBlk (w.heap.size + 1) 28 (if D 4 = true then #[.int .i64 os, .slice A1 n1 c1, .slice A2 n2 c2, .slice A3 n3 c3, .int .i64 st] else #[.int .i64 0, .slice none 0 0, .slice none 0 0, .slice none 0 0, .int .i64 0]))
     | 2 => some (rBook (.agg #[.int .i64 os, .slice A1 n1 c1, .slice A2 n2 c2, .slice A3 n3 c3, .int .i64 st]) b)
     | 3 => some (rBlk g6 28 #[.int .i64 os, .slice A1 n1 c1, .slice A2 n2 c2, .slice A3 n3 c3, .int .i64 st])
     | 4 => some (rBlk g7 26 #[.int .i64 st, .slice G gn gc, .slice G' n' c'])
     | _ => none)
    () ?_ ?_ ?_
   ·intro D hD; refine ((Sn.of_st HS8.out).quiet ((Below.refl _ _).drew)).congr fun i => ?_
    match i with
    | 0 => rfl
    | 1 => simp only [hD 4 (by decide)]; rfl
    | 2 | 3 | 4 => rfl
    | q + 5 => rfl
   ·refine Cs (fun D _ wx hR _ hd _ _ hs K hK => ?_) ?_
    ·have e6 := hs.o 6 (.pointer (some ⟨g6, 0, none⟩)); clear hs; have qk := (hR.blk 3 rfl).cell; go_simp; exact hK () wx sv hR
    refine Cs (fun D _ wx hR _ hd _ _ hs K hK => ?_) ?_
    ·have e2 := hs.o 2 (.pointer (some ⟨w.heap.size, 0, none⟩)); clear hs; go_simp; exact hK () wx sv hR
    refine Cs (fun D _ wx hR _ hd _ _ hs K hK => ?_) ?_
    ·have e95 := hs.v 1 95 hd; clear hs; have qk := (hR.blk 0 rfl).cell; go_simp; exact hK () wx sv hR
    refine Cs (fun D _ wx hR _ hd _ _ hs K hK => ?_) ?_
    ·have e96 := hs.v 2 96 hd; have g96 := getQ e96; clear hs; go_simp; refine (taskText_spec _ b.order _ (HTO.out.up hR.below) HTOK.out).mono ?_; rintro e2 w2 ⟨rfl, hb2⟩; exact hK () w2 sv (hR.quiet hb2)
    refine Cs (fun D _ wx hR (hDi : D 4 = false) hd _ _ hs K hK => ?_) ?_
    ·have e4 := hs.o 4 (.pointer (some ⟨(w.heap.size + 1), 0, none⟩)); have e94 := hs.v 0 94 hd; clear hs; have kb : Blk wx (w.heap.size + 1) 28 #[.int .i64 0, .slice none 0 0, .slice none 0 0, .slice none 0 0, .int .i64 0] := hR.blk 1 (by simp only [hDi] <;> rfl); have f0 := kb.frozen; have qk := kb.cell; go_simp
     exact hK () _ sv ((hR.set5 1 (by simp only [hDi]; rfl) _ _ _ _ _).congr
      (fun i => by
       match i with
       | 0 | 1 | 2 | 3 | 4 => rfl
       | q + 5 => exact (if_neg (show ¬ (q + 5 = 1) by omega)).symm))
    refine Cs (fun D _ wx hR _ hd _ _ hs K hK => ?_) ?_
    ·have e97 := hs.v 3 97 hd; clear hs; go_simp; exact hK () wx sv hR
    exact StepAll.nil
   ·intro D _ wx hR hD; simp only [putA, Act.put, List.setIfInBounds_toArray, List.set_cons_zero, List.set_cons_succ]; have HS9 : Hid (St w wx [rBook (.agg #[.int .i64 os, .slice A1 n1 c1, .slice A2 n2 c2, .slice A3 n3 c3, .int .i64 st]) b, rBlk (w.heap.size + 1) 28 #[.int .i64 os, .slice A1 n1 c1, .slice A2 n2 c2, .slice A3 n3 c3, .int .i64 st]]) := Lib.hid (hR.to_st [2, 1] (by decide) (by simp only [List.map, hD 4 (by decide)] <;> rfl)); clear hR hD; have z0 := HS9.out.cells 1 rfl; go_wp2; refine bodyPost_ret (v := .tuple #[.agg #[.int .i64 os, .slice A1 n1 c1, .slice A2 n2 c2, .slice A3 n3 c3, .int .i64 st], .string ⟨(taskT b.order).toArray⟩]) (by simp [results, Tryz.results10, go_sem, z0]) rfl ⟨.agg #[.int .i64 os, .slice A1 n1 c1, .slice A2 n2 c2, .slice A3 n3 c3, .int .i64 st], by rw [HA.out] <;> rfl, HS9.out.pick [0] (by decide) rfl rfl⟩
  by_cases h2 : s.data.toList = doneW
  ·have hW := h2; clear h2 h0 h1 hf; have HA : Bx (ans = ⟨(decT dn).toArray⟩) := Bx.mk (by rw [← hans, hW]; unfold askT; rw [if_neg (by decide), if_neg (by decide), if_pos rfl, HDL.out]); have b0 : s.toList = [100, 111, 110, 101] := by rw [Lib.toList_data, hW]; rfl
   clear hW hans; have HS8 := Lib.hid (HS7.out.pick [0, 1, 2, 3, 4] (by decide) rfl rfl)
   go_upto_region 22 with (fail)
   clear q0 q1 q6 f1 HS7 b0
   refine wpr (σ := Unit)
    (fun _ i => match i with
     | 0 => .agg #[.int .i64 os, .slice A1 n1 c1, .slice A2 n2 c2, .slice A3 n3 c3, .int .i64 st]
     | 1 => .pointer (some ⟨w.heap.size, 3, none⟩)
     | 2 => .slice D' dn dc
     | 3 => .int .i64 (dn : Int)
     | 4 => .string ⟨(decT dn).toArray⟩
     | 6 => .string ⟨(decT dn).toArray⟩
     | _ => undef)
    (fun D _ wx => Sn w wx fun i => match i with
     | 0 => some (rBlk w.heap.size 28 #[.int .i64 os, .slice G gn gc, .slice G' n' c', .slice D' dn dc, .int .i64 st])
     | 1 => some (rBlk (w.heap.size + 1) 28 (if D 5 = true then #[.int .i64 os, .slice A1 n1 c1, .slice A2 n2 c2, .slice A3 n3 c3, .int .i64 st] else #[.int .i64 0, .slice none 0 0, .slice none 0 0, .slice none 0 0, .int .i64 0]))
     | 2 => some (rBook (.agg #[.int .i64 os, .slice A1 n1 c1, .slice A2 n2 c2, .slice A3 n3 c3, .int .i64 st]) b)
     | 3 => some (rBlk g6 28 #[.int .i64 os, .slice A1 n1 c1, .slice A2 n2 c2, .slice A3 n3 c3, .int .i64 st])
     | 4 => some (rBlk g7 26 #[.int .i64 st, .slice G gn gc, .slice G' n' c'])
     | _ => none)
    () ?_ ?_ ?_
   ·intro D hD; refine ((Sn.of_st HS8.out).quiet ((Below.refl _ _).drew)).congr fun i => ?_
    match i with
    | 0 => rfl
    | 1 => simp only [hD 5 (by decide)]; rfl
    | 2 | 3 | 4 => rfl
    | q + 5 => rfl
   ·refine Cs (fun D _ wx hR _ hd _ _ hs K hK => ?_) ?_
    ·have e6 := hs.o 6 (.pointer (some ⟨g6, 0, none⟩)); clear hs; have qk := (hR.blk 3 rfl).cell; go_simp; exact hK () wx sv hR
    refine Cs (fun D _ wx hR _ hd _ _ hs K hK => ?_) ?_
    ·have e2 := hs.o 2 (.pointer (some ⟨w.heap.size, 0, none⟩)); clear hs; go_simp; exact hK () wx sv hR
    refine Cs (fun D _ wx hR _ hd _ _ hs K hK => ?_) ?_
    ·have e102 := hs.v 1 102 hd; clear hs; have qk := (hR.blk 0 rfl).cell; go_simp; exact hK () wx sv hR
    refine Cs (fun D _ wx hR _ hd _ _ hs K hK => ?_) ?_
    ·have e103 := hs.v 2 103 hd; have g103 := getQ e103; clear hs; go_simp; exact hK () wx sv hR
    refine Cs (fun D _ wx hR _ hd _ _ hs K hK => ?_) ?_
    ·have e104 := hs.v 3 104 hd; have g104 := getQ e104; clear hs; go_simp; refine (l1Number_dec dn HDB.out _).mono ?_; rintro e2 w2 ⟨rfl, hb2⟩; exact hK () w2 sv (hR.quiet hb2)
    refine Cs (fun D _ wx hR (hDi : D 5 = false) hd _ _ hs K hK => ?_) ?_
    ·have e4 := hs.o 4 (.pointer (some ⟨(w.heap.size + 1), 0, none⟩)); have e101 := hs.v 0 101 hd; clear hs; have kb : Blk wx (w.heap.size + 1) 28 #[.int .i64 0, .slice none 0 0, .slice none 0 0, .slice none 0 0, .int .i64 0] := hR.blk 1 (by simp only [hDi] <;> rfl); have f0 := kb.frozen; have qk := kb.cell; go_simp
     exact hK () _ sv ((hR.set5 1 (by simp only [hDi]; rfl) _ _ _ _ _).congr
      (fun i => by
       match i with
       | 0 | 1 | 2 | 3 | 4 => rfl
       | q + 5 => exact (if_neg (show ¬ (q + 5 = 1) by omega)).symm))
    refine Cs (fun D _ wx hR _ hd _ _ hs K hK => ?_) ?_
    ·have e105 := hs.v 4 105 hd; clear hs; go_simp; exact hK () wx sv hR
    exact StepAll.nil
   ·intro D _ wx hR hD; simp only [putA, Act.put, List.setIfInBounds_toArray, List.set_cons_zero, List.set_cons_succ]; have HS9 : Hid (St w wx [rBook (.agg #[.int .i64 os, .slice A1 n1 c1, .slice A2 n2 c2, .slice A3 n3 c3, .int .i64 st]) b, rBlk (w.heap.size + 1) 28 #[.int .i64 os, .slice A1 n1 c1, .slice A2 n2 c2, .slice A3 n3 c3, .int .i64 st]]) := Lib.hid (hR.to_st [2, 1] (by decide) (by simp only [List.map, hD 5 (by decide)] <;> rfl)); clear hR hD; have z0 := HS9.out.cells 1 rfl; go_wp2; refine bodyPost_ret (v := .tuple #[.agg #[.int .i64 os, .slice A1 n1 c1, .slice A2 n2 c2, .slice A3 n3 c3, .int .i64 st], .string ⟨(decT dn).toArray⟩]) (by simp [results, Tryz.results10, go_sem, z0]) rfl ⟨.agg #[.int .i64 os, .slice A1 n1 c1, .slice A2 n2 c2, .slice A3 n3 c3, .int .i64 st], by rw [HA.out] <;> rfl, HS9.out.pick [0] (by decide) rfl rfl⟩
  by_cases h3 : s.data.toList = mayW
  ·have hW := h3; clear h3 h0 h1 h2 hf; have HAM : Bx (ans = ⟨(mayT xs).toArray⟩) := Bx.mk (by rw [← hans, hW]; unfold askT; rw [if_neg (by decide), if_neg (by decide), if_neg (by decide), if_pos rfl, HSTT.out, HMY.out]); have b0 : s.toList = [109, 97, 121] := by rw [Lib.toList_data, hW]; rfl
   clear hW hans; obtain ⟨xl, hxl⟩ : ∃ x, xs.length = x := ⟨_, rfl⟩; have HXL := Lib.hid hxl; rw [hxl] at hxl6; have HS7' : Hid (St w w7 [rBlk w.heap.size 28 #[.int .i64 os, .slice G gn gc, .slice G' n' c', .slice D' dn dc, .int .i64 st], rBlk (w.heap.size + 1) 28 #[.int .i64 0, .slice none 0 0, .slice none 0 0, .slice none 0 0, .int .i64 0], rBook (.agg #[.int .i64 os, .slice A1 n1 c1, .slice A2 n2 c2, .slice A3 n3 c3, .int .i64 st]) b, rBlk g6 28 #[.int .i64 os, .slice A1 n1 c1, .slice A2 n2 c2, .slice A3 n3 c3, .int .i64 st], rInts (.slice A7 xl d7) xs]) := Lib.hid (by rw [← hxl]; exact HS7.out.pick [0, 1, 2, 3, 8] (by decide) rfl rfl); rw [hxl]; clear hxl
   by_cases h0 : xl = 0
   ·have HA : Bx (ans = ⟨noneW.toArray⟩) := Bx.mk (by rw [HAM.out, List.length_eq_zero_iff.1 (HXL.out.trans h0)]; rfl); have h0i : ((xl : Int) == 0) = true := by rw [h0]; rfl
    have HS9 := Lib.hid ((HS7.out.set5 1 rfl (.int .i64 os) (.slice A1 n1 c1) (.slice A2 n2 c2) (.slice A3 n3 c3) (.int .i64 st)).pick [2, 1] (by decide) rfl rfl); go_wp2; have z0 := HS9.out.cells 1 rfl; refine bodyPost_ret (v := .tuple #[.agg #[.int .i64 os, .slice A1 n1 c1, .slice A2 n2 c2, .slice A3 n3 c3, .int .i64 st], .string ⟨#[110, 111, 110, 101]⟩]) (by simp [results, Tryz.results10, go_sem, z0]) rfl ⟨.agg #[.int .i64 os, .slice A1 n1 c1, .slice A2 n2 c2, .slice A3 n3 c3, .int .i64 st], by rw [HA.out] <;> rfl, HS9.out.pick [0] (by decide) rfl rfl⟩
   have h0i : ((xl : Int) == 0) = false := beq_false_of_ne (by omega); have h0l : 0 < xl := by omega
   clear h0 HS7; obtain ⟨gm, rfl⟩ := row_at (HS7'.out.ownI' 4 rfl HXL.out) (by omega); obtain ⟨x0, hx0⟩ : ∃ x, xs[0]? = some x := ⟨_, List.getElem?_eq_getElem (by rw [HXL.out]; exact h0l)⟩; have r0 := (HS7'.out.rowI 4 rfl HXL.out 0 x0 hx0); have hxb0 := HXB.out x0 (List.mem_of_getElem? hx0); have HM1 := Lib.hid (mayP_zero hx0); obtain ⟨m0, rfl⟩ := Int.eq_ofNat_of_zero_le hxb0.1; have HMB : Hid (m0 < 100000000000) := Lib.hid (by omega); clear hx0 hxb0
   go_wp2_with fail
   refine (l1Number_dec m0 HMB.out _).mono ?_; rintro e w8 ⟨rfl, hb8⟩; have HS8 := Lib.hid (HS7'.out.quiet hb8); clear hb8 HS7' q0 q1 q6 f1 r0; go_wp2
   go_loopw [18, 19] (fun a i wr => ∃ (k : Nat) (X : ByteArray), 1 ≤ k ∧ k ≤ xl ∧ i = .int .i64 (k : Int) ∧ a = .string X ∧ Bx (X = ⟨(mayP (xs.take k)).toArray⟩) ∧ St w wr [rBlk w.heap.size 28 #[.int .i64 os, .slice G gn gc, .slice G' n' c', .slice D' dn dc, .int .i64 st], rBlk (w.heap.size + 1) 28 #[.int .i64 0, .slice none 0 0, .slice none 0 0, .slice none 0 0, .int .i64 0], rBook (.agg #[.int .i64 os, .slice A1 n1 c1, .slice A2 n2 c2, .slice A3 n3 c3, .int .i64 st]) b, rBlk g6 28 #[.int .i64 os, .slice A1 n1 c1, .slice A2 n2 c2, .slice A3 n3 c3, .int .i64 st], rInts (.slice (some ⟨gm, 0, none⟩) xl d7) xs]) (fun _ i _ => xl - (intOf i).toNat)
   case atStart => exact ⟨1, _, by omega, by omega, rfl, rfl, Bx.mk (by rw [HM1.out]; rfl), HS8.out⟩
   case round =>
    clear HS8; obtain ⟨k, X, hk1, hk, rfl, rfl, HX, S⟩ := hrel; have HS := Lib.hid S; clear S
    by_cases hlt : k < xl
    ·obtain ⟨x, hx⟩ : ∃ x, xs[k]? = some x := ⟨_, List.getElem?_eq_getElem (by rw [HXL.out]; exact hlt)⟩; have r0 := (HS.out.rowI 4 rfl HXL.out k x hx); have hxb := HXB.out x (List.mem_of_getElem? hx); obtain ⟨kk, rfl⟩ : ∃ kk, k = kk + 1 := ⟨k - 1, by omega⟩; have HM2 := Lib.hid (mayP_succ hx); obtain ⟨m, rfl⟩ := Int.eq_ofNat_of_zero_le hxb.1; have HMB2 : Hid (m < 100000000000) := Lib.hid (by omega)
     have hXs : X.size ≤ 100 := by
      have h1 := mayP_len (xs := xs.take (kk + 1)) (fun x hx => HXB.out x (List.mem_of_mem_take hx)); rw [HX.out]
      show (mayP (xs.take (kk + 1))).toArray.size ≤ _
      rw [List.size_toArray]; simp only [List.length_take] at h1; omega
     have hds : (⟨(decT m).toArray⟩ : ByteArray).size ≤ 100 := by
      show (decT m).toArray.size ≤ _
      have := decT_len 1 m (by omega)
      rw [List.size_toArray]; omega
     have HDS := Lib.hid hds; have hc1 : ¬ 9223372036854775807 < X.size + 1 := by omega
     have hc2 : ¬ 9223372036854775807 < X.size + 1 + (⟨(decT m).toArray⟩ : ByteArray).size := by omega
     have HX2 : Bx (X ++ ⟨#[44]⟩ ++ ⟨(decT m).toArray⟩ = ⟨(mayP (xs.take (kk + 2))).toArray⟩) := Bx.mk (by rw [HX.out, HM2.out, show (⟨#[44]⟩ : ByteArray) = ⟨[44].toArray⟩ from rfl, ba_app, ba_app, List.append_assoc]; rfl); clear hx hxb hds hXs
     go_wp2_with fail
     refine (l1Number_dec m HMB2.out _).mono ?_; rintro e w9 ⟨rfl, hb9⟩; have HS9 := Lib.hid (HS.out.quiet hb9); clear hb9 r0; go_wp2
     go_roundw
     case rel => exact ⟨kk + 2, _, by omega, by omega, by go_num, rfl, HX2, HS9.out⟩
     case measure => simp [intOf]; omega
    ·obtain rfl : k = xl := by omega
     have HA : Bx (ans = X) := Bx.mk (by rw [HAM.out, HX.out, List.take_of_length_le (by rw [HXL.out]; omega), mayP_may (by intro h; have := HXL.out; rw [h] at this; simp at this; omega)]); have q1 := HS.out.cells 1 rfl; have q6 := HS.out.cells 3 rfl; have f1 := HS.out.free 1 rfl; have HS9 := Lib.hid ((HS.out.set5 1 rfl (.int .i64 os) (.slice A1 n1 c1) (.slice A2 n2 c2) (.slice A3 n3 c3) (.int .i64 st)).pick [2, 1] (by decide) rfl rfl); go_wp2; have z0 := HS9.out.cells 1 rfl; refine bodyPost_ret (v := .tuple #[.agg #[.int .i64 os, .slice A1 n1 c1, .slice A2 n2 c2, .slice A3 n3 c3, .int .i64 st], .string X]) (by simp [results, Tryz.results10, go_sem, z0]) rfl ⟨.agg #[.int .i64 os, .slice A1 n1 c1, .slice A2 n2 c2, .slice A3 n3 c3, .int .i64 st], by rw [HA.out] <;> rfl, HS9.out.pick [0] (by decide) rfl rfl⟩
  by_cases h4 : s.data.toList = leftW
  ·have hW := h4; clear h4 h0 h1 h2 h3 hf; have b0 : s.toList = [108, 101, 102, 116] := by rw [Lib.toList_data, hW]; rfl
   have HAL : Bx (ans = ⟨(leftT ro).toArray⟩) := Bx.mk (by rw [← hans, hW]; unfold askT; rw [if_neg (by decide), if_neg (by decide), if_neg (by decide), if_neg (by decide), if_pos rfl, HRO.out]; cases ro <;> rfl); clear hW hans
   cases ro with
   | none =>
    have HA : Bx (ans = ⟨noneW.toArray⟩) := HAL; simp only [Option.isSome_none]; have HS9 := Lib.hid ((HS7.out.set5 1 rfl (.int .i64 os) (.slice A1 n1 c1) (.slice A2 n2 c2) (.slice A3 n3 c3) (.int .i64 st)).pick [2, 1] (by decide) rfl rfl); go_wp2; have z0 := HS9.out.cells 1 rfl; refine bodyPost_ret (v := .tuple #[.agg #[.int .i64 os, .slice A1 n1 c1, .slice A2 n2 c2, .slice A3 n3 c3, .int .i64 st], .string ⟨#[110, 111, 110, 101]⟩]) (by simp [results, Tryz.results10, go_sem, z0]) rfl ⟨.agg #[.int .i64 os, .slice A1 n1 c1, .slice A2 n2 c2, .slice A3 n3 c3, .int .i64 st], by rw [HA.out] <;> rfl, HS9.out.pick [0] (by decide) rfl rfl⟩
   | some p =>
    obtain ⟨pn, hpn⟩ : ∃ x, p.length = x := ⟨_, rfl⟩; have HA : Bx (ans = ⟨(decT pn).toArray⟩) := Bx.mk (by rw [HAL.out, leftT, hpn]); have HPB : Hid (pn < 100000000000) := Lib.hid (by have := restFor_len2 b; rw [HRO.out] at this; simp at this; omega); simp only [Option.isSome_some, Option.getD_some] at HS7 ⊢
    rw [hpn]; clear hpn HAL; have HS8 := Lib.hid (HS7.out.pick [0, 1, 2, 3, 4] (by decide) rfl rfl)
    go_upto_region 33 with (fail)
    clear q0 q1 q6 f1 HS7 b0
    refine wpr (σ := Unit)
     (fun _ i => match i with
      | 0 => .agg #[.int .i64 os, .slice A1 n1 c1, .slice A2 n2 c2, .slice A3 n3 c3, .int .i64 st]
      | 1 => .slice A5 pn d5
      | 2 => .int .i64 (pn : Int)
      | 3 => .string ⟨(decT pn).toArray⟩
      | 5 => .string ⟨(decT pn).toArray⟩
      | _ => undef)
     (fun D _ wx => Sn w wx fun i => match i with
      | 0 => some (rBlk w.heap.size 28 #[.int .i64 os, .slice G gn gc, .slice G' n' c', .slice D' dn dc, .int .i64 st])
      | 1 => some (rBlk (w.heap.size + 1) 28 (if D 4 = true then #[.int .i64 os, .slice A1 n1 c1, .slice A2 n2 c2, .slice A3 n3 c3, .int .i64 st] else #[.int .i64 0, .slice none 0 0, .slice none 0 0, .slice none 0 0, .int .i64 0]))
      | 2 => some (rBook (.agg #[.int .i64 os, .slice A1 n1 c1, .slice A2 n2 c2, .slice A3 n3 c3, .int .i64 st]) b)
      | 3 => some (rBlk g6 28 #[.int .i64 os, .slice A1 n1 c1, .slice A2 n2 c2, .slice A3 n3 c3, .int .i64 st])
      | 4 => some (rBlk g7 26 #[.int .i64 st, .slice G gn gc, .slice G' n' c'])
      | _ => none)
     () ?_ ?_ ?_
    ·intro D hD; refine ((Sn.of_st HS8.out).quiet ((Below.refl _ _).drew)).congr fun i => ?_
     match i with
     | 0 => rfl
     | 1 => simp only [hD 4 (by decide)]; rfl
     | 2 | 3 | 4 => rfl
     | q + 5 => rfl
    ·refine Cs (fun D _ wx hR _ hd _ _ hs K hK => ?_) ?_
     ·have e6 := hs.o 6 (.pointer (some ⟨g6, 0, none⟩)); clear hs; have qk := (hR.blk 3 rfl).cell; go_simp; exact hK () wx sv hR
     refine Cs (fun D _ wx hR _ hd _ _ hs K hK => ?_) ?_
     ·have e10 := hs.o 10 (.slice A5 pn d5); clear hs; go_simp; exact hK () wx sv hR
     refine Cs (fun D _ wx hR _ hd _ _ hs K hK => ?_) ?_
     ·have e150 := hs.v 1 150 hd; have g150 := getQ e150; clear hs; go_simp; exact hK () wx sv hR
     refine Cs (fun D _ wx hR _ hd _ _ hs K hK => ?_) ?_
     ·have e151 := hs.v 2 151 hd; have g151 := getQ e151; clear hs; go_simp; refine (l1Number_dec pn HPB.out _).mono ?_; rintro e2 w2 ⟨rfl, hb2⟩; exact hK () w2 sv (hR.quiet hb2)
     refine Cs (fun D _ wx hR (hDi : D 4 = false) hd _ _ hs K hK => ?_) ?_
     ·have e4 := hs.o 4 (.pointer (some ⟨(w.heap.size + 1), 0, none⟩)); have e149 := hs.v 0 149 hd; clear hs; have kb : Blk wx (w.heap.size + 1) 28 #[.int .i64 0, .slice none 0 0, .slice none 0 0, .slice none 0 0, .int .i64 0] := hR.blk 1 (by simp only [hDi] <;> rfl); have f0 := kb.frozen; have qk := kb.cell; go_simp
      exact hK () _ sv ((hR.set5 1 (by simp only [hDi]; rfl) _ _ _ _ _).congr
       (fun i => by
        match i with
        | 0 | 1 | 2 | 3 | 4 => rfl
        | q + 5 => exact (if_neg (show ¬ (q + 5 = 1) by omega)).symm))
     refine Cs (fun D _ wx hR _ hd _ _ hs K hK => ?_) ?_
     ·have e152 := hs.v 3 152 hd; clear hs; go_simp; exact hK () wx sv hR
     exact StepAll.nil
    ·intro D _ wx hR hD; simp only [putA, Act.put, List.setIfInBounds_toArray, List.set_cons_zero, List.set_cons_succ]; have HS9 : Hid (St w wx [rBook (.agg #[.int .i64 os, .slice A1 n1 c1, .slice A2 n2 c2, .slice A3 n3 c3, .int .i64 st]) b, rBlk (w.heap.size + 1) 28 #[.int .i64 os, .slice A1 n1 c1, .slice A2 n2 c2, .slice A3 n3 c3, .int .i64 st]]) := Lib.hid (hR.to_st [2, 1] (by decide) (by simp only [List.map, hD 4 (by decide)] <;> rfl)); clear hR hD; have z0 := HS9.out.cells 1 rfl; go_wp2; refine bodyPost_ret (v := .tuple #[.agg #[.int .i64 os, .slice A1 n1 c1, .slice A2 n2 c2, .slice A3 n3 c3, .int .i64 st], .string ⟨(decT pn).toArray⟩]) (by simp [results, Tryz.results10, go_sem, z0]) rfl ⟨.agg #[.int .i64 os, .slice A1 n1 c1, .slice A2 n2 c2, .slice A3 n3 c3, .int .i64 st], by rw [HA.out] <;> rfl, HS9.out.pick [0] (by decide) rfl rfl⟩
  by_cases h5 : s.data.toList = endedW
  ·have hW := h5; clear h5 h0 h1 h2 h3 h4 hf; obtain ⟨be, hbe⟩ : ∃ x, bookEnded b = x := ⟨_, rfl⟩; have HBE := Bx.mk hbe; have HA : Bx (ans = wordB be ⟨#[121, 101, 115]⟩) := Bx.mk (by rw [← hans, hW]; unfold askT; rw [if_neg (by decide), if_neg (by decide), if_neg (by decide), if_neg (by decide), if_neg (by decide), if_pos rfl, hbe]; cases be <;> rfl); have b0 : s.toList = [101, 110, 100, 101, 100] := by rw [Lib.toList_data, hW]; rfl
   clear hW hans hbe; have HS8 := Lib.hid (HS7.out.pick [0, 1, 2, 3, 4] (by decide) rfl rfl)
   go_upto_region 35 with (fail)
   clear q0 q1 q6 f1 HS7 b0
   refine wpr (σ := Unit)
    (fun _ i => match i with
     | 0 => .agg #[.int .i64 os, .slice A1 n1 c1, .slice A2 n2 c2, .slice A3 n3 c3, .int .i64 st]
     | 1 => .agg #[.int .i64 os, .slice G gn gc, .slice G' n' c', .slice D' dn dc, .int .i64 st]
     | 2 => .bool be
     | 3 => .string (wordB be ⟨#[121, 101, 115]⟩)
     | 5 => .string (wordB be ⟨#[121, 101, 115]⟩)
     | _ => undef)
    (fun D _ wx => Sn w wx fun i => match i with
     | 0 => some (rBlk w.heap.size 28 #[.int .i64 os, .slice G gn gc, .slice G' n' c', .slice D' dn dc, .int .i64 st])
     | 1 => some (rBlk (w.heap.size + 1) 28 (if D 4 = true then #[.int .i64 os, .slice A1 n1 c1, .slice A2 n2 c2, .slice A3 n3 c3, .int .i64 st] else #[.int .i64 0, .slice none 0 0, .slice none 0 0, .slice none 0 0, .int .i64 0]))
     | 2 => some (rBook (.agg #[.int .i64 os, .slice A1 n1 c1, .slice A2 n2 c2, .slice A3 n3 c3, .int .i64 st]) b)
     | 3 => some (rBlk g6 28 #[.int .i64 os, .slice A1 n1 c1, .slice A2 n2 c2, .slice A3 n3 c3, .int .i64 st])
     | 4 => some (rBlk g7 26 #[.int .i64 st, .slice G gn gc, .slice G' n' c'])
     | _ => none)
    () ?_ ?_ ?_
   ·intro D hD; refine ((Sn.of_st HS8.out).quiet ((Below.refl _ _).drew)).congr fun i => ?_
    match i with
    | 0 => rfl
    | 1 => simp only [hD 4 (by decide)]; rfl
    | 2 | 3 | 4 => rfl
    | q + 5 => rfl
   ·refine Cs (fun D _ wx hR _ hd _ _ hs K hK => ?_) ?_
    ·have e6 := hs.o 6 (.pointer (some ⟨g6, 0, none⟩)); clear hs; have qk := (hR.blk 3 rfl).cell; go_simp; exact hK () wx sv hR
    refine Cs (fun D _ wx hR _ hd _ _ hs K hK => ?_) ?_
    ·have e2 := hs.o 2 (.pointer (some ⟨w.heap.size, 0, none⟩)); clear hs; have qk := (hR.blk 0 rfl).cell; go_simp; exact hK () wx sv hR
    refine Cs (fun D _ wx hR _ hd _ _ hs K hK => ?_) ?_
    ·have e157 := hs.v 1 157 hd; have g157 := getQ e157; clear hs; go_simp; refine (bookEnded_spec _ b _ (HB.out.up hR.below)).mono ?_; rw [HBE.out]; rintro e2 w2 ⟨rfl, hb2⟩; exact hK () w2 sv (hR.quiet hb2)
    refine Cs (fun D _ wx hR _ hd _ _ hs K hK => ?_) ?_
    ·have e158 := hs.v 2 158 hd; have g158 := getQ e158; clear hs; go_simp; refine (l10Word_any be ⟨#[121, 101, 115]⟩ _).mono ?_; rintro e2 w2 ⟨rfl, rfl⟩; exact hK () wx sv hR
    refine Cs (fun D _ wx hR (hDi : D 4 = false) hd _ _ hs K hK => ?_) ?_
    ·have e4 := hs.o 4 (.pointer (some ⟨(w.heap.size + 1), 0, none⟩)); have e156 := hs.v 0 156 hd; clear hs; have kb : Blk wx (w.heap.size + 1) 28 #[.int .i64 0, .slice none 0 0, .slice none 0 0, .slice none 0 0, .int .i64 0] := hR.blk 1 (by simp only [hDi] <;> rfl); have f0 := kb.frozen; have qk := kb.cell; go_simp
     exact hK () _ sv ((hR.set5 1 (by simp only [hDi]; rfl) _ _ _ _ _).congr
      (fun i => by
       match i with
       | 0 | 1 | 2 | 3 | 4 => rfl
       | q + 5 => exact (if_neg (show ¬ (q + 5 = 1) by omega)).symm))
    refine Cs (fun D _ wx hR _ hd _ _ hs K hK => ?_) ?_
    ·have e159 := hs.v 3 159 hd; clear hs; go_simp; exact hK () wx sv hR
    exact StepAll.nil
   ·intro D _ wx hR hD; simp only [putA, Act.put, List.setIfInBounds_toArray, List.set_cons_zero, List.set_cons_succ]; have HS9 : Hid (St w wx [rBook (.agg #[.int .i64 os, .slice A1 n1 c1, .slice A2 n2 c2, .slice A3 n3 c3, .int .i64 st]) b, rBlk (w.heap.size + 1) 28 #[.int .i64 os, .slice A1 n1 c1, .slice A2 n2 c2, .slice A3 n3 c3, .int .i64 st]]) := Lib.hid (hR.to_st [2, 1] (by decide) (by simp only [List.map, hD 4 (by decide)] <;> rfl)); clear hR hD; have z0 := HS9.out.cells 1 rfl; go_wp2; refine bodyPost_ret (v := .tuple #[.agg #[.int .i64 os, .slice A1 n1 c1, .slice A2 n2 c2, .slice A3 n3 c3, .int .i64 st], .string (wordB be ⟨#[121, 101, 115]⟩)]) (by simp [results, Tryz.results10, go_sem, z0]) rfl ⟨.agg #[.int .i64 os, .slice A1 n1 c1, .slice A2 n2 c2, .slice A3 n3 c3, .int .i64 st], by rw [HA.out] <;> rfl, HS9.out.pick [0] (by decide) rfl rfl⟩
  by_cases h6 : s.data.toList = proofW
  ·have hW := h6; clear h6 h0 h1 h2 h3 h4 h5 hf; have HA : Bx (ans = ⟨(proofT (taskFrom b)).toArray⟩) := Bx.mk (by rw [← hans, hW]; unfold askT; rw [if_neg (by decide), if_neg (by decide), if_neg (by decide), if_neg (by decide), if_neg (by decide), if_neg (by decide), if_pos rfl]); have b0 : s.toList = [112, 114, 111, 111, 102] := by rw [Lib.toList_data, hW]; rfl
   clear hW hans; have HS8 := Lib.hid (HS7.out.pick [0, 1, 2, 3, 4] (by decide) rfl rfl)
   go_upto_region 37 with (fail)
   clear q0 q1 q6 f1 HS7 b0
   refine wpr (σ := Unit)
    (fun _ i => match i with
     | 0 => .agg #[.int .i64 os, .slice A1 n1 c1, .slice A2 n2 c2, .slice A3 n3 c3, .int .i64 st]
     | 1 => .agg #[.int .i64 st, .slice G gn gc, .slice G' n' c']
     | 2 => .string ⟨(proofT (taskFrom b)).toArray⟩
     | 4 => .string ⟨(proofT (taskFrom b)).toArray⟩
     | _ => undef)
    (fun D _ wx => Sn w wx fun i => match i with
     | 0 => some (rBlk w.heap.size 28 #[.int .i64 os, .slice G gn gc, .slice G' n' c', .slice D' dn dc, .int .i64 st])
     | 1 => some (rBlk (w.heap.size + 1) 28 (if D 3 = true then #[.int .i64 os, .slice A1 n1 c1, .slice A2 n2 c2, .slice A3 n3 c3, .int .i64 st] else #[.int .i64 0, .slice none 0 0, .slice none 0 0, .slice none 0 0, .int .i64 0]))
     | 2 => some (rBook (.agg #[.int .i64 os, .slice A1 n1 c1, .slice A2 n2 c2, .slice A3 n3 c3, .int .i64 st]) b)
     | 3 => some (rBlk g6 28 #[.int .i64 os, .slice A1 n1 c1, .slice A2 n2 c2, .slice A3 n3 c3, .int .i64 st])
     | 4 => some (rBlk g7 26 #[.int .i64 st, .slice G gn gc, .slice G' n' c'])
     | _ => none)
    () ?_ ?_ ?_
   ·intro D hD; refine ((Sn.of_st HS8.out).quiet ((Below.refl _ _).drew)).congr fun i => ?_
    match i with
    | 0 => rfl
    | 1 => simp only [hD 3 (by decide)]; rfl
    | 2 | 3 | 4 => rfl
    | q + 5 => rfl
   ·refine Cs (fun D _ wx hR _ hd _ _ hs K hK => ?_) ?_
    ·have e6 := hs.o 6 (.pointer (some ⟨g6, 0, none⟩)); clear hs; have qk := (hR.blk 3 rfl).cell; go_simp; exact hK () wx sv hR
    refine Cs (fun D _ wx hR _ hd _ _ hs K hK => ?_) ?_
    ·have e7 := hs.o 7 (.pointer (some ⟨g7, 0, none⟩)); clear hs; have qk := (hR.blk 4 rfl).cell; go_simp; exact hK () wx sv hR
    refine Cs (fun D _ wx hR _ hd _ _ hs K hK => ?_) ?_
    ·have e164 := hs.v 1 164 hd; have g164 := getQ e164; clear hs; go_simp; refine (proofText_spec _ (taskFrom b) _ (HTF.out.up hR.below) HTFO.out).mono ?_; rintro e2 w2 ⟨rfl, hb2⟩; exact hK () w2 sv (hR.quiet hb2)
    refine Cs (fun D _ wx hR (hDi : D 3 = false) hd _ _ hs K hK => ?_) ?_
    ·have e4 := hs.o 4 (.pointer (some ⟨(w.heap.size + 1), 0, none⟩)); have e163 := hs.v 0 163 hd; clear hs; have kb : Blk wx (w.heap.size + 1) 28 #[.int .i64 0, .slice none 0 0, .slice none 0 0, .slice none 0 0, .int .i64 0] := hR.blk 1 (by simp only [hDi] <;> rfl); have f0 := kb.frozen; have qk := kb.cell; go_simp
     exact hK () _ sv ((hR.set5 1 (by simp only [hDi]; rfl) _ _ _ _ _).congr
      (fun i => by
       match i with
       | 0 | 1 | 2 | 3 | 4 => rfl
       | q + 5 => exact (if_neg (show ¬ (q + 5 = 1) by omega)).symm))
    refine Cs (fun D _ wx hR _ hd _ _ hs K hK => ?_) ?_
    ·have e165 := hs.v 2 165 hd; clear hs; go_simp; exact hK () wx sv hR
    exact StepAll.nil
   ·intro D _ wx hR hD; simp only [putA, Act.put, List.setIfInBounds_toArray, List.set_cons_zero, List.set_cons_succ]; have HS9 : Hid (St w wx [rBook (.agg #[.int .i64 os, .slice A1 n1 c1, .slice A2 n2 c2, .slice A3 n3 c3, .int .i64 st]) b, rBlk (w.heap.size + 1) 28 #[.int .i64 os, .slice A1 n1 c1, .slice A2 n2 c2, .slice A3 n3 c3, .int .i64 st]]) := Lib.hid (hR.to_st [2, 1] (by decide) (by simp only [List.map, hD 3 (by decide)] <;> rfl)); clear hR hD; have z0 := HS9.out.cells 1 rfl; go_wp2; refine bodyPost_ret (v := .tuple #[.agg #[.int .i64 os, .slice A1 n1 c1, .slice A2 n2 c2, .slice A3 n3 c3, .int .i64 st], .string ⟨(proofT (taskFrom b)).toArray⟩]) (by simp [results, Tryz.results10, go_sem, z0]) rfl ⟨.agg #[.int .i64 os, .slice A1 n1 c1, .slice A2 n2 c2, .slice A3 n3 c3, .int .i64 st], by rw [HA.out] <;> rfl, HS9.out.pick [0] (by decide) rfl rfl⟩
  have b0 : (s.toList == [102, 105, 110, 105, 115, 104]) = false := by rw [Bool.eq_false_iff, Lib.toList_data]; intro h; exact hf (beq_iff_eq.1 h)
  have b1 : (s.toList == [115, 116, 97, 116, 101]) = false := by rw [Bool.eq_false_iff, Lib.toList_data]; intro h; exact h0 (beq_iff_eq.1 h)
  have b2 : (s.toList == [116, 97, 115, 107]) = false := by rw [Bool.eq_false_iff, Lib.toList_data]; intro h; exact h1 (beq_iff_eq.1 h)
  have b3 : (s.toList == [100, 111, 110, 101]) = false := by rw [Bool.eq_false_iff, Lib.toList_data]; intro h; exact h2 (beq_iff_eq.1 h)
  have b4 : (s.toList == [109, 97, 121]) = false := by rw [Bool.eq_false_iff, Lib.toList_data]; intro h; exact h3 (beq_iff_eq.1 h)
  have b5 : (s.toList == [108, 101, 102, 116]) = false := by rw [Bool.eq_false_iff, Lib.toList_data]; intro h; exact h4 (beq_iff_eq.1 h)
  have b6 : (s.toList == [101, 110, 100, 101, 100]) = false := by rw [Bool.eq_false_iff, Lib.toList_data]; intro h; exact h5 (beq_iff_eq.1 h)
  have b7 : (s.toList == [112, 114, 111, 111, 102]) = false := by rw [Bool.eq_false_iff, Lib.toList_data]; intro h; exact h6 (beq_iff_eq.1 h)
  have HSD := Lib.hid (show (s.extract 0 6).data.toList = s.data.toList.take 6 by rw [Lib.extract_eq]; simp)
  by_cases h6s : 6 < s.size
  ·have c6 : (6 : Int) < (s.size : Int) := by omega
   have c6' : (6 : Int) ≤ (s.size : Int) := by omega
   cases hcw : ((s.extract 0 6).toList == [99, 104, 101, 99, 107, 32]) with
   | true =>
    have hck : checkW.isPrefixOf s.data.toList = true := by
     rw [List.isPrefixOf_iff_prefix]
     have := beq_iff_eq.1 hcw
     rw [Lib.toList_data, HSD.out] at this; exact ⟨s.data.toList.drop 6, (congrArg (· ++ s.data.toList.drop 6) this.symm).trans (List.take_append_drop 6 _)⟩
    obtain ⟨rb, hrb⟩ : ∃ x, s.extract 6 s.size = x := ⟨_, rfl⟩; have HRB := Bx.mk hrb; have hrd : rb.data.toList = s.data.toList.drop 6 := by rw [← hrb, Lib.extract_eq]; exact List.take_of_length_le (by rw [List.length_drop, ← Lib.size_eq]; exact Nat.le_refl _)
    have HRSZ : Hid (rb.size ≤ 1099511627776) := Lib.hid (by have := HSZ.out; rw [Lib.size_eq, hrd, List.length_drop, ← Lib.size_eq]; omega); obtain ⟨z, hz⟩ : ∃ z, proofRight (taskFrom b) rb.data.toList = z := ⟨_, rfl⟩; have HZ := Bx.mk hz; have HA0 : Bx (ans = ⟨(verdictW z).toArray⟩) := Bx.mk (by rw [← hans]; unfold askT; rw [if_neg h0, if_neg h1, if_neg h2, if_neg h3, if_neg h4, if_neg h5, if_neg h6, if_pos ⟨hck, by rw [← Lib.size_eq]; exact h6s⟩, ← hrd, hz])
    obtain ⟨zi, vs, h1z, h2z, h3z, h4z⟩ : ∃ (zi : Nat) (vs : ByteArray), z + 1 = (zi : Int) ∧ zi < 3 ∧ ans = vs ∧ (#[Value.string ⟨#[110, 111, 116, 104, 105, 110, 103]⟩, Value.string ⟨#[99, 97, 110, 110, 111, 116]⟩, Value.string ⟨#[99, 97, 110]⟩] : Array Value)[zi]? = some (.string vs) := by
     rcases proofRight_three (taskFrom b) rb.data.toList with h | h | h
     all_goals (rw [hz] at h; subst h)
     ·exact ⟨0, _, by omega, by omega, HA0.out, rfl⟩
     ·exact ⟨1, _, by omega, by omega, HA0.out, rfl⟩
     ·exact ⟨2, _, by omega, by omega, HA0.out, rfl⟩
    have HZI := Lib.hid h1z; have HZL := Lib.hid h2z; have HA : Bx (ans = vs) := Bx.mk h3z; have HVS := Lib.hid h4z; have HZW : Hid (IntKind.i64.wrap (zi : Int) = (zi : Int)) := Lib.hid (by rw [IntKind.wrap_i64] <;> omega); have HC6 := Lib.hid c6'; clear hrb hrd hz h1z h2z h3z h4z hck h6s hans h0 h1 h2 h3 h4 h5 h6 hf; have HS8 := Lib.hid (HS7.out.pick [0, 1, 2, 3, 4] (by decide) rfl rfl)
    go_upto_region 39 with (fail)
    clear q0 q1 q6 f1 HS7 b0 b1 b2 b3 b4 b5 b6 b7 c6 c6' hcw
    refine wpr (σ := Nat)
     (fun sg i => match i with
      | 0 => .agg #[.int .i64 os, .slice A1 n1 c1, .slice A2 n2 c2, .slice A3 n3 c3, .int .i64 st]
      | 1 => .slice (some ⟨sg, 0, none⟩) 3 3
      | 2 => .agg #[.int .i64 st, .slice G gn gc, .slice G' n' c']
      | 3 => .string s
      | 4 => .string rb
      | 5 => .int .i64 z
      | 6 => .int .i64 (zi : Int)
      | 7 => .pointer (some ⟨sg, zi, none⟩)
      | 8 => .string vs
      | 10 => .string vs
      | _ => undef)
     (fun D sg wx => Sn w wx fun i => match i with
      | 0 => some (rBlk w.heap.size 28 #[.int .i64 os, .slice G gn gc, .slice G' n' c', .slice D' dn dc, .int .i64 st])
      | 1 => some (rBlk (w.heap.size + 1) 28 (if D 9 = true then #[.int .i64 os, .slice A1 n1 c1, .slice A2 n2 c2, .slice A3 n3 c3, .int .i64 st] else #[.int .i64 0, .slice none 0 0, .slice none 0 0, .slice none 0 0, .int .i64 0]))
      | 2 => some (rBook (.agg #[.int .i64 os, .slice A1 n1 c1, .slice A2 n2 c2, .slice A3 n3 c3, .int .i64 st]) b)
      | 3 => some (rBlk g6 28 #[.int .i64 os, .slice A1 n1 c1, .slice A2 n2 c2, .slice A3 n3 c3, .int .i64 st])
      | 4 => some (rBlk g7 26 #[.int .i64 st, .slice G gn gc, .slice G' n' c'])
      | 5 => if D 1 = true then some (rBlk sg 9 #[.string ⟨#[110, 111, 116, 104, 105, 110, 103]⟩, .string ⟨#[99, 97, 110, 110, 111, 116]⟩, .string ⟨#[99, 97, 110]⟩]) else none
      | _ => none)
     0 ?_ ?_ ?_
    ·intro D hD; refine ((Sn.of_st HS8.out).quiet ((Below.refl _ _).drew)).congr fun i => ?_
     match i with
     | 0 => rfl
     | 1 => simp only [hD 9 (by decide)]; rfl
     | 2 | 3 | 4 => rfl
     | 5 => simp only [hD 1 (by decide)]; rfl
     | q + 6 => rfl
    ·refine Cs (fun D sg wx hR _ hd _ _ hs K hK => ?_) ?_
     ·have e6 := hs.o 6 (.pointer (some ⟨g6, 0, none⟩)); clear hs; have qk := (hR.blk 3 rfl).cell; go_simp; exact hK sg wx sv hR
     refine Cs (fun D sg wx hR (hDi : D 1 = false) hd hsh _ hs K hK => ?_) ?_
     ·clear hs; have n7 : D 7 = false := hsh.no hDi 7 rfl ⟨1, .data⟩ (by simp) rfl rfl; go_simp
      refine hK wx.heap.size _
       (fun j hj => by
        match j, hj with
        | 0, hj => rfl
        | 1, hj => rw [hDi] at hj; cases hj
        | 2, hj | 3, hj | 4, hj | 5, hj | 6, hj => rfl
        | 7, hj => rw [n7] at hj; cases hj
        | 8, hj | 9, hj | 10, hj => rfl
        | _ + 11, hj => rfl)
       ((hR.add 5 (if_neg (by rw [hDi]; simp)) (St.new1 wx #[.string ⟨#[110, 111, 116, 104, 105, 110, 103]⟩, .string ⟨#[99, 97, 110, 110, 111, 116]⟩, .string ⟨#[99, 97, 110]⟩] 9)).congr
        (fun i => by
         match i with
         | 0 | 1 | 2 | 3 | 4 | 5 => rfl
         | q + 6 => exact (if_neg (show ¬ (q + 6 = 5) by omega)).symm))
     refine Cs (fun D sg wx hR _ hd _ _ hs K hK => ?_) ?_
     ·have e7 := hs.o 7 (.pointer (some ⟨g7, 0, none⟩)); clear hs; have qk := (hR.blk 4 rfl).cell; go_simp; exact hK sg wx sv hR
     refine Cs (fun D sg wx hR _ hd _ _ hs K hK => ?_) ?_
     ·have e1 := hs.o 1 (.string s); clear hs; go_simp; exact hK sg wx sv hR
     refine Cs (fun D sg wx hR _ hd _ _ hs K hK => ?_) ?_
     ·have e178 := hs.v 3 178 hd; clear hs; have h0 := HC6.out; have hrb := HRB.out; go_simp; exact hK sg wx sv hR
     refine Cs (fun D sg wx hR _ hd _ _ hs K hK => ?_) ?_
     ·have e177 := hs.v 2 177 hd; have e179 := hs.v 4 179 hd; have g177 := getQ e177; have g179 := getQ e179; clear hs; go_simp; refine (proofRight_spec _ (taskFrom b) rb _ (HTF.out.up hR.below) HTFO.out HRSZ.out).mono ?_; rw [HZ.out]; rintro e2 w2 ⟨rfl, hb2⟩; exact hK sg w2 sv (hR.quiet hb2)
     refine Cs (fun D sg wx hR _ hd _ _ hs K hK => ?_) ?_
     ·have e180 := hs.v 5 180 hd; clear hs; have h0 := HZI.out; have h1 := HZW.out; go_simp; exact hK sg wx sv hR
     refine Cs (fun D sg wx hR _ hd _ _ hs K hK => ?_) ?_
     ·have e176 := hs.v 1 176 hd; have e181 := hs.v 6 181 hd; clear hs; have h0 : (zi : Int) < 3 := by have := HZL.out; omega
      go_simp; exact hK sg wx sv hR
     refine Cs (fun D sg wx hR _ hd hsh _ hs K hK => ?_) ?_
     ·have e182 := hs.v 7 182 hd; clear hs; have d7 : D 7 = true := hd ⟨7, .data⟩ (by simp) rfl
      have d1 : D 1 = true := by
       cases h1 : D 1 with
       | true => rfl
       | false => rw [hsh.no h1 7 rfl ⟨1, .data⟩ (by simp) rfl rfl] at d7; cases d7
      have kb : Blk wx sg 9 #[.string ⟨#[110, 111, 116, 104, 105, 110, 103]⟩, .string ⟨#[99, 97, 110, 110, 111, 116]⟩, .string ⟨#[99, 97, 110]⟩] := hR.blk 5 (by simp only [d1] <;> rfl); have c0 : wx.cell? ⟨sg, zi, none⟩ = some (.string vs) := (kb.cell zi).trans HVS.out; go_simp; exact hK sg wx sv hR
     refine Cs (fun D sg wx hR (hDi : D 9 = false) hd _ _ hs K hK => ?_) ?_
     ·have e4 := hs.o 4 (.pointer (some ⟨(w.heap.size + 1), 0, none⟩)); have e175 := hs.v 0 175 hd; clear hs; have kb : Blk wx (w.heap.size + 1) 28 #[.int .i64 0, .slice none 0 0, .slice none 0 0, .slice none 0 0, .int .i64 0] := hR.blk 1 (by simp only [hDi] <;> rfl); have f0 := kb.frozen; have qk := kb.cell; go_simp
      exact hK sg _ sv ((hR.set5 1 (by simp only [hDi]; rfl) _ _ _ _ _).congr
       (fun i => by
        match i with
        | 0 | 1 | 2 | 3 | 4 | 5 => rfl
        | q + 6 => exact (if_neg (show ¬ (q + 6 = 1) by omega)).symm))
     refine Cs (fun D sg wx hR _ hd _ _ hs K hK => ?_) ?_
     ·have e183 := hs.v 8 183 hd; clear hs; go_simp; exact hK sg wx sv hR
     exact StepAll.nil
    ·intro D sg wx hR hD; simp only [putA, Act.put, List.setIfInBounds_toArray, List.set_cons_zero, List.set_cons_succ]; have HS9 : Hid (St w wx [rBook (.agg #[.int .i64 os, .slice A1 n1 c1, .slice A2 n2 c2, .slice A3 n3 c3, .int .i64 st]) b, rBlk (w.heap.size + 1) 28 #[.int .i64 os, .slice A1 n1 c1, .slice A2 n2 c2, .slice A3 n3 c3, .int .i64 st]]) := Lib.hid (hR.to_st [2, 1] (by decide) (by simp only [List.map, hD 9 (by decide)] <;> rfl)); clear hR hD; have z0 := HS9.out.cells 1 rfl; go_wp2; refine bodyPost_ret (v := .tuple #[.agg #[.int .i64 os, .slice A1 n1 c1, .slice A2 n2 c2, .slice A3 n3 c3, .int .i64 st], .string vs]) (by simp [results, Tryz.results10, go_sem, z0]) rfl ⟨.agg #[.int .i64 os, .slice A1 n1 c1, .slice A2 n2 c2, .slice A3 n3 c3, .int .i64 st], by rw [HA.out] <;> rfl, HS9.out.pick [0] (by decide) rfl rfl⟩
   | false =>
    have HA : Bx (ans = ⟨whatW.toArray⟩) := Bx.mk (by
     rw [← hans]; unfold askT; rw [if_neg h0, if_neg h1, if_neg h2, if_neg h3, if_neg h4, if_neg h5, if_neg h6, if_neg]; rintro ⟨hp, -⟩; obtain ⟨r, hr⟩ := List.isPrefixOf_iff_prefix.1 hp; have : (s.extract 0 6).toList = checkW := by rw [Lib.toList_data, HSD.out, ← hr]; rfl
     rw [this] at hcw; cases hcw)
    clear h6s hans h0 h1 h2 h3 h4 h5 h6 hf; have HS9 := Lib.hid ((HS7.out.set5 1 rfl (.int .i64 os) (.slice A1 n1 c1) (.slice A2 n2 c2) (.slice A3 n3 c3) (.int .i64 st)).pick [2, 1] (by decide) rfl rfl); go_wp2; have z0 := HS9.out.cells 1 rfl; refine bodyPost_ret (v := .tuple #[.agg #[.int .i64 os, .slice A1 n1 c1, .slice A2 n2 c2, .slice A3 n3 c3, .int .i64 st], .string ⟨#[119, 104, 97, 116]⟩]) (by simp [results, Tryz.results10, go_sem, z0]) rfl ⟨.agg #[.int .i64 os, .slice A1 n1 c1, .slice A2 n2 c2, .slice A3 n3 c3, .int .i64 st], by rw [HA.out] <;> rfl, HS9.out.pick [0] (by decide) rfl rfl⟩
  ·have c6 : ¬ (6 : Int) < (s.size : Int) := by omega
   have HA : Bx (ans = ⟨whatW.toArray⟩) := Bx.mk (by
     rw [← hans]; unfold askT; rw [if_neg h0, if_neg h1, if_neg h2, if_neg h3, if_neg h4, if_neg h5, if_neg h6, if_neg]; rintro ⟨-, hp⟩; rw [← Lib.size_eq] at hp
     exact h6s hp)
   clear h6s hans h0 h1 h2 h3 h4 h5 h6 hf; have HS9 := Lib.hid ((HS7.out.set5 1 rfl (.int .i64 os) (.slice A1 n1 c1) (.slice A2 n2 c2) (.slice A3 n3 c3) (.int .i64 st)).pick [2, 1] (by decide) rfl rfl); go_wp2; have z0 := HS9.out.cells 1 rfl; refine bodyPost_ret (v := .tuple #[.agg #[.int .i64 os, .slice A1 n1 c1, .slice A2 n2 c2, .slice A3 n3 c3, .int .i64 st], .string ⟨#[119, 104, 97, 116]⟩]) (by simp [results, Tryz.results10, go_sem, z0]) rfl ⟨.agg #[.int .i64 os, .slice A1 n1 c1, .slice A2 n2 c2, .slice A3 n3 c3, .int .i64 st], by rw [HA.out] <;> rfl, HS9.out.pick [0] (by decide) rfl rfl⟩
 | some a =>
  obtain ⟨k, m⟩ := a; have hk0 : k0 = k := HK0.out; have hm0 : m0 = m := HM0.out; have hbo : bo = true := HBO.out; subst hk0 hm0 hbo; have hpb := HPB.out; have hans := HANS.out; rw [sayB_act HOK.out HR.out] at hpb hans
  simp only at hpb hans
  have HMW : Bx ((Lit.int .i64 m0).wf = true) := Bx.mk (wf_i64_mk (by have := readA_bound HR.out; omega)); obtain ⟨did, hdid⟩ : ∃ x, bookDid b ⟨k0, m0⟩ = x := ⟨_, rfl⟩; have HDID := Bx.mk hdid; have HA : Bx (ans = wordB did ⟨#[111, 107]⟩) := Bx.mk (by rw [← hans, hdid]; cases did <;> rfl); have HX := Bx.mk hpb; obtain ⟨xs0, hxs0⟩ : ∃ y, pb.order.start = y := ⟨_, rfl⟩; obtain ⟨xt, hxt⟩ : ∃ y, pb.state = y := ⟨_, rfl⟩; have HXS := Bx.mk hxs0; have HXT := Bx.mk hxt; clear hpb hans hdid hxs0 hxt; have q8 := HS7.out.cells 5 rfl
  go_wp2_with fail
  refine (bookDo_spec _ b k0 m0 _ (HB.out.up HS7.out.below) HMW.out).mono ?_; rw [HX.out, HDID.out]; rintro e w8 ⟨v8, rfl, s8⟩; obtain ⟨X1, i1, j1, X2, i2, j2, X3, i3, j3, hv⟩ := s8.formB 0 rfl; rw [HXS.out, HXT.out] at hv; subst hv; obtain ⟨g9, hg9⟩ : ∃ y, w8.heap.size = y := ⟨_, rfl⟩; have HS9 : Hid (St w (w8.alloc (.cells #[.int .i64 xs0, .slice X1 i1 j1, .slice X2 i2 j2, .slice X3 i3 j3, .int .i64 xt] 28)) [rBlk (w.heap.size + 1) 28 #[.int .i64 0, .slice none 0 0, .slice none 0 0, .slice none 0 0, .int .i64 0], rBook (.agg #[.int .i64 xs0, .slice X1 i1 j1, .slice X2 i2 j2, .slice X3 i3 j3, .int .i64 xt]) pb, rBlk g9 28 #[.int .i64 xs0, .slice X1 i1 j1, .slice X2 i2 j2, .slice X3 i3 j3, .int .i64 xt]]) := Lib.hid (by rw [← hg9]; exact ((HS7.out.call s8).alloc _ _).pick [1, 9, 10] (by decide) rfl rfl); clear s8 HS7 q0 q1 q6 q8 f1
  go_upto_region 11 with (fail)
  refine wpr (σ := Unit)
   (fun _ i => match i with
    | 0 => .agg #[.int .i64 xs0, .slice X1 i1 j1, .slice X2 i2 j2, .slice X3 i3 j3, .int .i64 xt]
    | 1 => .bool did
    | 2 => .string (wordB did ⟨#[111, 107]⟩)
    | 4 => .string (wordB did ⟨#[111, 107]⟩)
    | _ => undef)
   (fun D _ wx => Sn w wx fun i => match i with
    | 0 => some (rBlk (w.heap.size + 1) 28 (if D 3 = true then #[.int .i64 xs0, .slice X1 i1 j1, .slice X2 i2 j2, .slice X3 i3 j3, .int .i64 xt] else #[.int .i64 0, .slice none 0 0, .slice none 0 0, .slice none 0 0, .int .i64 0]))
    | 1 => some (rBook (.agg #[.int .i64 xs0, .slice X1 i1 j1, .slice X2 i2 j2, .slice X3 i3 j3, .int .i64 xt]) pb)
    | 2 => some (rBlk g9 28 #[.int .i64 xs0, .slice X1 i1 j1, .slice X2 i2 j2, .slice X3 i3 j3, .int .i64 xt])
    | _ => none)
   () ?_ ?_ ?_
  ·intro D hD; refine ((Sn.of_st HS9.out).quiet ((Below.refl _ _).drew)).congr fun i => ?_
   match i with
   | 0 => simp only [hD 3 (by decide)]; rfl
   | 1 | 2 => rfl
   | q + 3 => rfl
  ·refine Cs (fun D _ wx hR _ hd _ _ hs K hK => ?_) ?_
   ·have e14 := hs.o 14 (.pointer (some ⟨g9, 0, none⟩)); clear hs; have qk := (hR.blk 2 rfl).cell; go_simp; exact hK () wx sv hR
   refine Cs (fun D _ wx hR _ hd _ _ hs K hK => ?_) ?_
   ·have e15 := hs.o 15 (.bool did); clear hs; go_simp; exact hK () wx sv hR
   refine Cs (fun D _ wx hR _ hd _ _ hs K hK => ?_) ?_
   ·have e63 := hs.v 1 63 hd; have g63 := getQ e63; clear hs; go_simp; refine (l10Word_any did ⟨#[111, 107]⟩ _).mono ?_; rintro e2 w2 ⟨rfl, rfl⟩; exact hK () wx sv hR
   refine Cs (fun D _ wx hR (hDi : D 3 = false) hd _ _ hs K hK => ?_) ?_
   ·have e4 := hs.o 4 (.pointer (some ⟨(w.heap.size + 1), 0, none⟩)); have e62 := hs.v 0 62 hd; clear hs; have kb : Blk wx (w.heap.size + 1) 28 #[.int .i64 0, .slice none 0 0, .slice none 0 0, .slice none 0 0, .int .i64 0] := hR.blk 0 (by simp only [hDi] <;> rfl); have f0 := kb.frozen; have qk := kb.cell; go_simp
    exact hK () _ sv ((hR.set5 0 (by simp only [hDi]; rfl) _ _ _ _ _).congr
     (fun i => by
      match i with
      | 0 | 1 | 2 => rfl
      | q + 3 => exact (if_neg (show ¬ (q + 3 = 0) by omega)).symm))
   refine Cs (fun D _ wx hR _ hd _ _ hs K hK => ?_) ?_
   ·have e64 := hs.v 2 64 hd; clear hs; go_simp; exact hK () wx sv hR
   exact StepAll.nil
  ·intro D _ wx hR hD; simp only [putA, Act.put, List.setIfInBounds_toArray, List.set_cons_zero, List.set_cons_succ]; have HS10 : Hid (St w wx [rBook (.agg #[.int .i64 xs0, .slice X1 i1 j1, .slice X2 i2 j2, .slice X3 i3 j3, .int .i64 xt]) pb, rBlk (w.heap.size + 1) 28 #[.int .i64 xs0, .slice X1 i1 j1, .slice X2 i2 j2, .slice X3 i3 j3, .int .i64 xt]]) := Lib.hid (hR.to_st [1, 0] (by decide) (by simp only [List.map, hD 3 (by decide)] <;> rfl)); clear hR hD; have z0 := HS10.out.cells 1 rfl; go_wp2; refine bodyPost_ret (v := .tuple #[.agg #[.int .i64 xs0, .slice X1 i1 j1, .slice X2 i2 j2, .slice X3 i3 j3, .int .i64 xt], .string (wordB did ⟨#[111, 107]⟩)]) (by simp [results, Tryz.results10, go_sem, z0]) rfl ⟨.agg #[.int .i64 xs0, .slice X1 i1 j1, .slice X2 i2 j2, .slice X3 i3 j3, .int .i64 xt], by rw [HA.out] <;> rfl, HS10.out.pick [0] (by decide) rfl rfl⟩
theorem bookLine_spec (v : Value) (b : BookD) (s : ByteArray) (w : World) (h : RdB w w.heap.size v b) (hs : s.size ≤ 1099511627776) :
  Calls Tryz.prog 10 #[v, .string s] w (SayR b s.data.toList w) := by
 cases hok : bookOk b with
 | false => exact lineS_bad v b s w h hok
 | true => exact lineS_valid v b s w h hok hs
end Go.Proofs.YtkmcengmglgdeaaGreatDoor
