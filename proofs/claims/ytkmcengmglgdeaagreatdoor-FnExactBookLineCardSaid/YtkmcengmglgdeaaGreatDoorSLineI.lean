
import Derived.Test.YtkmcengmglgdeaaGreatDoorSLaid
import Derived.Test.YtkmcengmglgdeaaGreatDoorSAnsI
import Derived.Test.YtkmcengmglgdeaaGreatDoorSRunB
import Derived.Test.YtkmcengmglgdeaaGreatDoorSEndActs
namespace Go.Proofs.YtkmcengmglgdeaaGreatDoor
set_option linter.unusedVariables false
set_option linter.unusedSimpArgs false
set_option maxRecDepth 100000
set_option maxHeartbeats 8000000
open Go.ChangeShapes Go.WideShapes Go.ChangeAt Go.RowKit
theorem sayB_bad {b : BookD} {l : List UInt8} (h : bookOk b = false) : sayB b l = (zeroB, []) := by unfold sayB; rw [h]; rfl
theorem sayB_act {b : BookD} {l : List UInt8} {k n : Int} (h : bookOk b = true) (hr : readA l = some (k, n)) : sayB b l = (bookDo b ⟨k, n⟩, if bookDid b ⟨k, n⟩ then okW else noW) := by unfold sayB; rw [if_pos h, hr]
theorem sayB_fin {b : BookD} (h : bookOk b = true) : sayB b finishW = ((bookRun b (endActs b)).1, if (endActs b).length = 0 then noneW else okW) := by
 unfold sayB; rw [if_pos h, show readA finishW = none from by decide]; rfl
theorem sayB_ask {b : BookD} {l : List UInt8} (h : bookOk b = true) (hr : readA l = none) (hf : l ≠ finishW) : sayB b l = (b, askT b l) := by
 unfold sayB; rw [if_pos h, hr]; exact if_neg hf
theorem endActs_wf (b : BookD) (hok : bookOk b = true) : ∀ a ∈ endActs b, (Lit.int .i64 a.number).wf = true := by
 have hd := (bookOk_parts hok).2.1
 unfold endActs
 split
 ·intro a ha
  rcases List.mem_append.1 ha with h | h
  ·split at h
   ·rw [List.mem_singleton.1 h]; exact wf_i64_mk (by simp only; omega)
   ·cases h
  ·split at h
   ·cases h
   ·rw [List.mem_singleton.1 h]; exact wf_i64_mk (by simp)
 ·intro a ha; cases ha
def SayR (b : BookD) (l : List UInt8) (w : World) (e : Ending) (w' : World) : Prop := Gives w (fun v => .tuple #[v, .string ⟨(sayB b l).2.toArray⟩]) (fun v => [rBook v (sayB b l).1]) e w'
theorem lineI_bad (v : Value) (b : BookD) (s : ByteArray) (w : World) (h : RdB w w.heap.size v b) (hok : bookOk b = false) :
  Calls Tryz.prog 9 #[v, .string s] w (SayR b s.data.toList w) := by
 unfold SayR
 rw [sayB_bad hok]; obtain ⟨G, gn, gc, G', n', c', D', dn, dc, hv⟩ := h.form; subst hv; obtain ⟨os, hos⟩ : ∃ x, b.order.start = x := ⟨_, rfl⟩; obtain ⟨st, hst⟩ : ∃ x, b.state = x := ⟨_, rfl⟩; rw [hos, hst] at h ⊢
 have HS0 : Hid (St w ((w.alloc (.cells #[.int .i64 os, .slice G gn gc, .slice G' n' c', .slice D' dn dc, .int .i64 st] 28)).alloc (.cells #[.int .i64 0, .slice none 0 0, .slice none 0 0, .slice none 0 0, .int .i64 0] 28)) [rBlk w.heap.size 28 #[.int .i64 os, .slice G gn gc, .slice G' n' c', .slice D' dn dc, .int .i64 st], rBlk (w.heap.size + 1) 28 #[.int .i64 0, .slice none 0 0, .slice none 0 0, .slice none 0 0, .int .i64 0]]) := Lib.hid (by
  have := ((St.refl w).alloc #[.int .i64 os, .slice G gn gc, .slice G' n' c', .slice D' dn dc, .int .i64 st] 28).alloc #[.int .i64 0, .slice none 0 0, .slice none 0 0, .slice none 0 0, .int .i64 0] 28
  simpa using this)
 have HB := Lib.hid h; have HOK := Bx.mk hok; have HOS := Bx.mk hos; have HSTT := Bx.mk hst; clear h hok hos hst; go_enter Tryz.func9, Tryz.ntmps9
 go_wp2_with fail
 refine (bookValid_impl _ b _ (HB.out.up HS0.out.below)).mono ?_; rw [HOK.out]; rintro e w1 ⟨rfl, hb1⟩; have HS1 := Lib.hid (HS0.out.quiet hb1); clear hb1 HS0; have q1 := HS1.out.cells 1 rfl; have f1 := HS1.out.free 1 rfl; go_wp2; refine bodyPost_ret (v := .tuple #[.agg #[.int .i64 0, .slice none 0 0, .slice none 0 0, .slice none 0 0, .int .i64 0], .string ⟨#[]⟩]) (by simp [results, Tryz.results9, go_sem, q1]) rfl ⟨.agg #[.int .i64 0, .slice none 0 0, .slice none 0 0, .slice none 0 0, .int .i64 0], rfl, ?_⟩; exact St.book0 (HS1.out.set5 1 rfl _ _ _ _ _).below
theorem lineI_finish (v : Value) (b : BookD) (w : World) (h : RdB w w.heap.size v b) (hok : bookOk b = true) :
  Calls Tryz.prog 9 #[v, .string ⟨#[102, 105, 110, 105, 115, 104]⟩] w (SayR b finishW w) := by
 unfold SayR
 rw [sayB_fin hok]; have hwf := endActs_wf b hok; have hlen := endActs_len b; obtain ⟨aa, haa⟩ : ∃ x, endActs b = x := ⟨_, rfl⟩; rw [haa] at hwf hlen ⊢
 have HWF := Lib.hid hwf; have HAA := Bx.mk haa; have hs : (⟨#[102, 105, 110, 105, 115, 104]⟩ : ByteArray).size ≤ 9223372036854775807 := by decide
 have HS := Bx.mk hs; have HR : Bx (readA (⟨#[102, 105, 110, 105, 115, 104]⟩ : ByteArray).data.toList = none) := Bx.mk (by decide); obtain ⟨fa, hfa⟩ : ∃ x, (⟨(if aa.length = 0 then noneW else okW).toArray⟩ : ByteArray) = x := ⟨_, rfl⟩; have HFA := Bx.mk hfa
 simp only
 rw [hfa]; obtain ⟨x, hx⟩ : ∃ x, (bookRun b aa).1 = x := ⟨_, rfl⟩; have HX := Bx.mk hx; rw [hx]; obtain ⟨xs0, hxs⟩ : ∃ y, x.order.start = y := ⟨_, rfl⟩; obtain ⟨xt, hxt⟩ : ∃ y, x.state = y := ⟨_, rfl⟩; have HXS := Bx.mk hxs; have HXT := Bx.mk hxt; obtain ⟨G, gn, gc, G', n', c', D', dn, dc, hv⟩ := h.form; subst hv; obtain ⟨os, hos⟩ : ∃ x, b.order.start = x := ⟨_, rfl⟩; obtain ⟨st, hst⟩ : ∃ x, b.state = x := ⟨_, rfl⟩; rw [hos, hst] at h ⊢
 have HS0 : Hid (St w ((w.alloc (.cells #[.int .i64 os, .slice G gn gc, .slice G' n' c', .slice D' dn dc, .int .i64 st] 28)).alloc (.cells #[.int .i64 0, .slice none 0 0, .slice none 0 0, .slice none 0 0, .int .i64 0] 28)) [rBlk w.heap.size 28 #[.int .i64 os, .slice G gn gc, .slice G' n' c', .slice D' dn dc, .int .i64 st], rBlk (w.heap.size + 1) 28 #[.int .i64 0, .slice none 0 0, .slice none 0 0, .slice none 0 0, .int .i64 0]]) := Lib.hid (by
  have := ((St.refl w).alloc #[.int .i64 os, .slice G gn gc, .slice G' n' c', .slice D' dn dc, .int .i64 st] 28).alloc #[.int .i64 0, .slice none 0 0, .slice none 0 0, .slice none 0 0, .int .i64 0] 28
  simpa using this)
 have HB := Lib.hid h; have HOK := Bx.mk hok; have HOS := Bx.mk hos; have HSTT := Bx.mk hst; clear h hok hos hst hwf haa hs hx hxs hxt hfa; go_enter Tryz.func9, Tryz.ntmps9
 go_wp2_with fail
 refine (bookValid_impl _ b _ (HB.out.up HS0.out.below)).mono ?_; rw [HOK.out]; rintro e w1 ⟨rfl, hb1⟩; have HS1 := Lib.hid (HS0.out.quiet hb1); clear hb1 HS0; have q0 := HS1.out.cells 0 rfl
 go_wp2_with fail
 refine (readAct_impl ⟨#[102, 105, 110, 105, 115, 104]⟩ _ HS.out).mono ?_; rw [HR.out]; rintro e w2 ⟨he, hb2⟩; have he' : e = .returned (.tuple #[.agg #[.int .i64 0, .int .i64 0], .bool false]) := he; subst he'; clear he; obtain ⟨g6, hg6⟩ : ∃ y, w2.heap.size = y := ⟨_, rfl⟩; have HS2 : Hid (St w (w2.alloc (.cells #[.int .i64 0, .int .i64 0] 64)) [rBlk w.heap.size 28 #[.int .i64 os, .slice G gn gc, .slice G' n' c', .slice D' dn dc, .int .i64 st], rBlk (w.heap.size + 1) 28 #[.int .i64 0, .slice none 0 0, .slice none 0 0, .slice none 0 0, .int .i64 0]]) := Lib.hid (((HS1.out.quiet hb2).alloc _ _).pick [0, 1] (by decide) rfl rfl); clear hb2 HS1 q0; have q0 := HS2.out.cells 0 rfl; clear hg6
 go_wp2_with fail
 refine (endActs_impl _ b _ (HB.out.up HS2.out.below)).mono ?_; rw [HAA.out]; rintro e w3 ⟨v3, rfl, s3⟩; have S3 := HS2.out.call s3; clear s3 HS2 q0; obtain ⟨A, c, rfl, hra⟩ := S3.rdA 2 rfl; have HRA := Lib.hid hra; have HS3 := Lib.hid S3; clear S3 hra; simp only [id]; obtain ⟨al, hal⟩ : ∃ x, aa.length = x := ⟨_, rfl⟩; rw [hal] at hlen; have HAL := Lib.hid hal; rw [hal]; have HRA2 : Hid (RdA w3 w3.heap.size A al c aa) := Lib.hid (by have := HRA.out; rw [hal] at this; exact this); clear HRA; have q0 := HS3.out.cells 0 rfl; clear hal
 go_wp2_with fail
 refine (bookRun_impl _ b A al c aa _ (HB.out.up HS3.out.below) HRA2.out HWF.out).mono ?_; rw [HX.out]; rintro e w4 ⟨v4, rfl, s4⟩; obtain ⟨X1, i1, j1, X2, i2, j2, X3, i3, j3, hv⟩ := s4.formB 0 rfl; rw [HXS.out, HXT.out] at hv; subst hv; obtain ⟨g8, hg8⟩ : ∃ y, w4.heap.size = y := ⟨_, rfl⟩; have HS4 : Hid (St w (w4.alloc (.cells #[.int .i64 xs0, .slice X1 i1 j1, .slice X2 i2 j2, .slice X3 i3 j3, .int .i64 xt] 28)) [rBlk (w.heap.size + 1) 28 #[.int .i64 0, .slice none 0 0, .slice none 0 0, .slice none 0 0, .int .i64 0], rBook (.agg #[.int .i64 xs0, .slice X1 i1 j1, .slice X2 i2 j2, .slice X3 i3 j3, .int .i64 xt]) x, rBlk g8 28 #[.int .i64 xs0, .slice X1 i1 j1, .slice X2 i2 j2, .slice X3 i3 j3, .int .i64 xt]]) := Lib.hid (by rw [← hg8]; exact ((HS3.out.call s4).alloc _ _).pick [1, 3, 4] (by decide) rfl rfl); clear s4 HS3 q0; have q1 := HS4.out.cells 0 rfl; have q8 := HS4.out.cells 2 rfl; have f1 := HS4.out.free 0 rfl; have HS5 := Lib.hid ((HS4.out.set5 0 rfl (.int .i64 xs0) (.slice X1 i1 j1) (.slice X2 i2 j2) (.slice X3 i3 j3) (.int .i64 xt)).pick [1, 0] (by decide) rfl rfl)
 by_cases h0 : al = 0
 ·subst h0; skip; go_wp2; have q2 := HS5.out.cells 1 rfl; refine bodyPost_ret (v := .tuple #[.agg #[.int .i64 xs0, .slice X1 i1 j1, .slice X2 i2 j2, .slice X3 i3 j3, .int .i64 xt], .string ⟨#[110, 111, 110, 101]⟩]) (by simp [results, Tryz.results9, go_sem, q2]) rfl ⟨.agg #[.int .i64 xs0, .slice X1 i1 j1, .slice X2 i2 j2, .slice X3 i3 j3, .int .i64 xt], by rw [← HFA.out, if_pos HAL.out]; rfl, HS5.out.pick [0] (by decide) rfl rfl⟩
 ·have h0i : ((al : Int) == 0) = false := beq_false_of_ne (by omega); have HNE : Hid (¬ aa.length = 0) := Lib.hid (by rw [HAL.out]; exact h0); clear h0; go_wp2; have q2 := HS5.out.cells 1 rfl; refine bodyPost_ret (v := .tuple #[.agg #[.int .i64 xs0, .slice X1 i1 j1, .slice X2 i2 j2, .slice X3 i3 j3, .int .i64 xt], .string ⟨#[111, 107]⟩]) (by simp [results, Tryz.results9, go_sem, q2]) rfl ⟨.agg #[.int .i64 xs0, .slice X1 i1 j1, .slice X2 i2 j2, .slice X3 i3 j3, .int .i64 xt], by rw [← HFA.out, if_neg HNE.out]; rfl, HS5.out.pick [0] (by decide) rfl rfl⟩
theorem lineI_ask (v : Value) (b : BookD) (s0 : ByteArray) (w : World) (h : RdB w w.heap.size v b) (hok : bookOk b = true) (he : ErrH w) (hp : PowTab w) (hs : s0.size < 4294967281) (hr : readA s0.data.toList = none) (hf : s0.data.toList ≠ finishW) :
  Calls Tryz.prog 9 #[v, .string s0] w (SayR b s0.data.toList w) := by
 unfold SayR
 rw [sayB_ask hok hr hf]; have hans := fun w' (hb : Below w.heap.size w w') => answerTo_impl v b s0 w' (h.up hb) hok (he.up hb) (hp.up hb) hs
 obtain ⟨ans, hae⟩ : ∃ x, (⟨(askT b s0.data.toList).toArray⟩ : ByteArray) = x := ⟨_, rfl⟩
 simp only
 rw [hae] at hans ⊢
 have HS : Bx (s0.size ≤ 9223372036854775807) := Bx.mk (by omega); have HR := Bx.mk hr; have b1 : (s0.toList == [102, 105, 110, 105, 115, 104]) = false := by rw [Bool.eq_false_iff, Lib.toList_data]; intro h; exact hf (beq_iff_eq.1 h)
 obtain ⟨G, gn, gc, G', n', c', D', dn, dc, hv⟩ := h.form; subst hv; obtain ⟨os, hos⟩ : ∃ x, b.order.start = x := ⟨_, rfl⟩; obtain ⟨st, hst⟩ : ∃ x, b.state = x := ⟨_, rfl⟩; rw [hos, hst] at h hans ⊢
 have HS0 : Hid (St w ((w.alloc (.cells #[.int .i64 os, .slice G gn gc, .slice G' n' c', .slice D' dn dc, .int .i64 st] 28)).alloc (.cells #[.int .i64 0, .slice none 0 0, .slice none 0 0, .slice none 0 0, .int .i64 0] 28)) [rBlk w.heap.size 28 #[.int .i64 os, .slice G gn gc, .slice G' n' c', .slice D' dn dc, .int .i64 st], rBlk (w.heap.size + 1) 28 #[.int .i64 0, .slice none 0 0, .slice none 0 0, .slice none 0 0, .int .i64 0]]) := Lib.hid (by
  have := ((St.refl w).alloc #[.int .i64 os, .slice G gn gc, .slice G' n' c', .slice D' dn dc, .int .i64 st] 28).alloc #[.int .i64 0, .slice none 0 0, .slice none 0 0, .slice none 0 0, .int .i64 0] 28
  simpa using this)
 have HB := Lib.hid h; have HOK := Bx.mk hok; have HOS := Bx.mk hos; have HSTT := Bx.mk hst; have HANS := Lib.hid hans; clear h hok hos hst hans hae he hp hs hr hf; go_enter Tryz.func9, Tryz.ntmps9
 go_wp2_with fail
 refine (bookValid_impl _ b _ (HB.out.up HS0.out.below)).mono ?_; rw [HOK.out]; rintro e w1 ⟨rfl, hb1⟩; have HS1 := Lib.hid (HS0.out.quiet hb1); clear hb1 HS0; have q0 := HS1.out.cells 0 rfl
 go_wp2_with fail
 refine (readAct_impl s0 _ HS.out).mono ?_; rw [HR.out]; rintro e w2 ⟨he, hb2⟩; have he' : e = .returned (.tuple #[.agg #[.int .i64 0, .int .i64 0], .bool false]) := he; subst he'; clear he; obtain ⟨g6, hg6⟩ : ∃ y, w2.heap.size = y := ⟨_, rfl⟩; have HS2 : Hid (St w (w2.alloc (.cells #[.int .i64 0, .int .i64 0] 64)) [rBlk w.heap.size 28 #[.int .i64 os, .slice G gn gc, .slice G' n' c', .slice D' dn dc, .int .i64 st], rBlk (w.heap.size + 1) 28 #[.int .i64 0, .slice none 0 0, .slice none 0 0, .slice none 0 0, .int .i64 0]]) := Lib.hid (((HS1.out.quiet hb2).alloc _ _).pick [0, 1] (by decide) rfl rfl); clear hb2 HS1 q0; have q0 := HS2.out.cells 0 rfl; clear hg6 q0
 go_upto_region 15 with (fail)
 clear b1
 refine wpr (σ := ((Option Addr × Nat × Nat) × (Option Addr × Nat × Nat) × (Option Addr × Nat × Nat)))
  (fun s i => match i with
   | 0 => .agg #[.int .i64 os, .slice G gn gc, .slice G' n' c', .slice D' dn dc, .int .i64 st]
   | 1 => .agg #[.int .i64 os, .slice s.1.1 s.1.2.1 s.1.2.2, .slice s.2.1.1 s.2.1.2.1 s.2.1.2.2, .slice s.2.2.1 s.2.2.2.1 s.2.2.2.2, .int .i64 st]
   | 2 => .agg #[.int .i64 os, .slice G gn gc, .slice G' n' c', .slice D' dn dc, .int .i64 st]
   | 3 => .string s0
   | 4 => .string ans
   | 6 => .string ans
   | _ => undef)
  (fun D s wx => Sn w wx fun i => match i with
   | 0 => some (rBlk w.heap.size 28 #[.int .i64 os, .slice G gn gc, .slice G' n' c', .slice D' dn dc, .int .i64 st])
   | 1 => some (rBlk (w.heap.size + 1) 28 (if D 5 = true then #[.int .i64 os, .slice s.1.1 s.1.2.1 s.1.2.2, .slice s.2.1.1 s.2.1.2.1 s.2.1.2.2, .slice s.2.2.1 s.2.2.2.1 s.2.2.2.2, .int .i64 st] else #[.int .i64 0, .slice none 0 0, .slice none 0 0, .slice none 0 0, .int .i64 0]))
   | 2 => if D 1 = true then some (rBook (.agg #[.int .i64 os, .slice s.1.1 s.1.2.1 s.1.2.2, .slice s.2.1.1 s.2.1.2.1 s.2.1.2.2, .slice s.2.2.1 s.2.2.2.1 s.2.2.2.2, .int .i64 st]) b) else none
   | _ => none)
  ((none, 0, 0), (none, 0, 0), (none, 0, 0)) ?_ ?_ ?_
 ·intro D hD; refine ((Sn.of_st HS2.out).quiet ((Below.refl _ _).drew)).congr fun i => ?_
  match i with
  | 0 => rfl
  | 1 => simp only [hD 5 (by decide)]; rfl
  | 2 => simp only [hD 1 (by decide)]; rfl
  | q + 3 => rfl
 ·refine Cs (fun D s wx hR _ hd _ _ hs K hK => ?_) ?_
  ·have e2 := hs.o 2 (.pointer (some ⟨w.heap.size, 0, none⟩)); clear hs; have qk := (hR.blk 0 rfl).cell; go_simp; exact hK s wx sv hR
  refine Cs (fun D s wx hR (hDi : D 1 = false) hd hsh _ hs K hK => ?_) ?_
  ·have e47 := hs.v 0 47 hd; have g47 := getQ e47; clear hs; have n5 : D 5 = false := hsh.no hDi 5 rfl ⟨1, .data⟩ (by simp) rfl rfl; go_simp; refine (bookCopy_any _ b _ (HB.out.up hR.below)).mono ?_; rintro e w2 ⟨v2, rfl, s2⟩; obtain ⟨A1, n1, c1, A2, n2, c2, A3, n3, c3, hv⟩ := s2.formB 0 rfl; rw [HOS.out, HSTT.out] at hv; subst hv
   refine hK ((A1, n1, c1), (A2, n2, c2), (A3, n3, c3)) w2
    (fun j hj => by
     match j, hj with
     | 0, hj => rfl
     | 1, hj => rw [hDi] at hj; cases hj
     | 2, hj | 3, hj | 4, hj | 5, hj | 6, hj => rfl
     | _ + 7, hj => rfl)
    ((hR.add 2 (if_neg (by rw [hDi]; simp)) s2).congr
     (fun i => by
      match i with
      | 0 => rfl
      | 1 => (show some (rBlk _ _ (if D 5 = true then _ else _)) = some (rBlk _ _ (if D 5 = true then _ else _)); rw [n5] <;> rfl)
      | 2 => rfl
      | q + 3 => exact (if_neg (show ¬ (q + 3 = 2) by omega)).symm))
  refine Cs (fun D s wx hR _ hd _ _ hs K hK => ?_) ?_
  ·have e2 := hs.o 2 (.pointer (some ⟨w.heap.size, 0, none⟩)); clear hs; have qk := (hR.blk 0 rfl).cell; go_simp; exact hK s wx sv hR
  refine Cs (fun D s wx hR _ hd _ _ hs K hK => ?_) ?_
  ·have e1 := hs.o 1 (.string s0); clear hs; go_simp; exact hK s wx sv hR
  refine Cs (fun D s wx hR _ hd _ _ hs K hK => ?_) ?_
  ·have e49 := hs.v 2 49 hd; have e50 := hs.v 3 50 hd; have g49 := getQ e49; have g50 := getQ e50; clear hs; go_simp; refine (HANS.out wx hR.below).mono ?_; rintro e w2 ⟨rfl, hb2⟩; exact hK s w2 sv (hR.quiet hb2)
  refine Cs (fun D s wx hR (hDi : D 5 = false) hd _ _ hs K hK => ?_) ?_
  ·have e4 := hs.o 4 (.pointer (some ⟨(w.heap.size + 1), 0, none⟩)); have e48 := hs.v 1 48 hd; clear hs; have kb : Blk wx (w.heap.size + 1) 28 #[.int .i64 0, .slice none 0 0, .slice none 0 0, .slice none 0 0, .int .i64 0] := hR.blk 1 (by simp only [hDi] <;> rfl); have f0 := kb.frozen; have qk := kb.cell; go_simp
   exact hK s _ sv ((hR.set5 1 (by simp only [hDi]; rfl) _ _ _ _ _).congr
    (fun i => by
     match i with
     | 0 | 1 | 2 => rfl
     | q + 3 => exact (if_neg (show ¬ (q + 3 = 1) by omega)).symm))
  refine Cs (fun D s wx hR _ hd _ _ hs K hK => ?_) ?_
  ·have e51 := hs.v 4 51 hd; clear hs; go_simp; exact hK s wx sv hR
  exact StepAll.nil
 ·intro D s wx hR hD; simp only [putA, Act.put, List.setIfInBounds_toArray, List.set_cons_zero, List.set_cons_succ]; have S3 : St w wx [rBook (.agg #[.int .i64 os, .slice s.1.1 s.1.2.1 s.1.2.2, .slice s.2.1.1 s.2.1.2.1 s.2.1.2.2, .slice s.2.2.1 s.2.2.2.1 s.2.2.2.2, .int .i64 st]) b, rBlk (w.heap.size + 1) 28 #[.int .i64 os, .slice s.1.1 s.1.2.1 s.1.2.2, .slice s.2.1.1 s.2.1.2.1 s.2.1.2.2, .slice s.2.2.1 s.2.2.2.1 s.2.2.2.2, .int .i64 st]] := hR.to_st [2, 1] (by decide) (by simp only [List.map, hD 1 (by decide), hD 5 (by decide)] <;> rfl); clear hR hD; have z0 := S3.cells 1 rfl; have HS3 := Lib.hid S3; clear S3; go_wp2; refine bodyPost_ret (v := .tuple #[.agg #[.int .i64 os, .slice s.1.1 s.1.2.1 s.1.2.2, .slice s.2.1.1 s.2.1.2.1 s.2.1.2.2, .slice s.2.2.1 s.2.2.2.1 s.2.2.2.2, .int .i64 st], .string ans]) (by simp [results, Tryz.results9, go_sem, z0]) rfl ⟨.agg #[.int .i64 os, .slice s.1.1 s.1.2.1 s.1.2.2, .slice s.2.1.1 s.2.1.2.1 s.2.1.2.2, .slice s.2.2.1 s.2.2.2.1 s.2.2.2.2, .int .i64 st], rfl, HS3.out.pick [0] (by decide) rfl rfl⟩
theorem bookLine_impl (v : Value) (b : BookD) (s : ByteArray) (w : World) (h : RdB w w.heap.size v b) (he : ErrH w) (hp : PowTab w) (hs : s.size < 4294967281) :
  Calls Tryz.prog 9 #[v, .string s] w (SayR b s.data.toList w) := by
 cases hok : bookOk b with
 | false => exact lineI_bad v b s w h hok
 | true =>
  cases hr : readA s.data.toList with
  | some a =>
   obtain ⟨k, m⟩ := a
   have := bookLine_act v b s k m w h hok (by omega) hr
   unfold SayR
   rw [sayB_act hok hr]; have e : ansA (bookDid b ⟨k, m⟩) = ⟨(if bookDid b ⟨k, m⟩ then okW else noW).toArray⟩ := by unfold ansA; cases bookDid b ⟨k, m⟩ <;> rfl
   rw [e] at this; exact this
  | none =>
   by_cases hf : s.data.toList = finishW
   ·obtain rfl := ba_eq hf; exact lineI_finish v b w h hok
   ·exact lineI_ask v b s w h hok he hp hs hr hf
end Go.Proofs.YtkmcengmglgdeaaGreatDoor
