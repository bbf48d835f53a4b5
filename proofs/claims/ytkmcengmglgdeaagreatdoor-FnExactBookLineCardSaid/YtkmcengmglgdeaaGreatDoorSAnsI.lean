
import Derived.Test.YtkmcengmglgdeaaGreatDoorSRightP
import Derived.Test.YtkmcengmglgdeaaGreatDoorSSplitW
import Derived.Test.YtkmcengmglgdeaaGreatDoorSCondS
import Derived.Test.YtkmcengmglgdeaaGreatDoorSReachS
import Derived.Test.YtkmcengmglgdeaaGreatDoorSBValid
import Derived.Test.YtkmcengmglgdeaaGreatDoorSPlanForS
import Derived.Test.YtkmcengmglgdeaaGreatDoorSShortP
import Derived.Test.YtkmcengmglgdeaaGreatDoorSActR
import Derived.Test.YtkmcengmglgdeaaGreatDoorSLaid
namespace Go.Proofs.YtkmcengmglgdeaaGreatDoor
set_option linter.unusedVariables false
set_option linter.unusedSimpArgs false
set_option maxRecDepth 100000
set_option maxHeartbeats 8000000
open Go.ChangeShapes Go.WideShapes Go.ChangeAt Go.RowKit
def leftT : Option (List Int) → List UInt8
 | none => noneW
 | some p => decT p.length
def endedT (b : Bool) : List UInt8 := if b then yesW else noW
theorem restFor_len2 (b : BookD) : ((restFor b).getD []).length ≤ 31 := by
 unfold restFor
 split
 ·cases h : planFor (taskFrom b) with
  | none => simp
  | some p => exact (planFor_some h).2.2.1
 ·simp
theorem ansI_state (v : Value) (b : BookD) (w : World) (h : RdB w w.heap.size v b) (hok : bookOk b = true) :
  Calls Tryz.prog 50 #[v, .string ⟨#[115, 116, 97, 116, 101]⟩] w fun e w' => e = .returned (.string ⟨(letT b.state.toNat).toArray⟩) ∧ Below w.heap.size w w' := by
 obtain ⟨A, n, c, A', n', c', A2, n2, c2, hv⟩ := h.form; obtain ⟨os, hos⟩ : ∃ x, b.order.start = x := ⟨_, rfl⟩; obtain ⟨st, hst⟩ : ∃ x, b.state = x := ⟨_, rfl⟩; rw [hos, hst] at hv; subst hv; have HS0 := Lib.hid ((St.refl w).alloc #[.int .i64 os, .slice A n c, .slice A' n' c', .slice A2 n2 c2, .int .i64 st] 28); obtain ⟨hbt, -, hbs, -⟩ := bookOk_parts hok; have HB := Lib.hid h; have HTO := Lib.hid h.order; have HTF := Lib.hid (h.from_ hst.symm); have HOK := Lib.hid hbt; have HOF := Lib.hid (taskOk_from hbt hbs); have HL2 := Lib.hid h.done.1.len; have HSD := Lib.hid hbs; obtain ⟨sn, rfl⟩ := Int.eq_ofNat_of_zero_le (show 0 ≤ st by rw [← hst]; exact hbs.1); have HSN : Hid (sn < 32) := Lib.hid (by omega); rw [show b.state.toNat = sn by rw [hst]; simp]; clear h hok hbt hbs hos hst; go_enter Tryz.func50, Tryz.ntmps50
 go_wp2_with fail
 refine (factLetters_any sn HSN.out _).mono ?_; rintro e w2 ⟨rfl, hb2⟩; have HS2 := Lib.hid (HS0.out.quiet hb2); clear hb2 HS0; go_wp2; go_ret; exact ⟨rfl, HS2.out.below⟩
theorem ansI_task (v : Value) (b : BookD) (w : World) (h : RdB w w.heap.size v b) (hok : bookOk b = true) :
  Calls Tryz.prog 50 #[v, .string ⟨#[116, 97, 115, 107]⟩] w fun e w' => e = .returned (.string ⟨(taskT b.order).toArray⟩) ∧ Below w.heap.size w w' := by
 obtain ⟨A, n, c, A', n', c', A2, n2, c2, hv⟩ := h.form; obtain ⟨os, hos⟩ : ∃ x, b.order.start = x := ⟨_, rfl⟩; obtain ⟨st, hst⟩ : ∃ x, b.state = x := ⟨_, rfl⟩; rw [hos, hst] at hv; subst hv; have HS0 := Lib.hid ((St.refl w).alloc #[.int .i64 os, .slice A n c, .slice A' n' c', .slice A2 n2 c2, .int .i64 st] 28); obtain ⟨hbt, -, hbs, -⟩ := bookOk_parts hok; have HB := Lib.hid h; have HTO := Lib.hid h.order; have HTF := Lib.hid (h.from_ hst.symm); have HOK := Lib.hid hbt; have HOF := Lib.hid (taskOk_from hbt hbs); have HL2 := Lib.hid h.done.1.len; have HSD := Lib.hid hbs; clear h hok hbt hbs hos hst; go_enter Tryz.func50, Tryz.ntmps50; have q0 := HS0.out.cells 0 rfl
 go_wp2_with fail
 refine (taskText_impl _ b.order _ (HTO.out.up HS0.out.below) HOK.out).mono ?_; rintro e w2 ⟨rfl, hb2⟩; have HS2 := Lib.hid (HS0.out.quiet hb2); clear hb2 HS0; go_wp2; go_ret; exact ⟨rfl, HS2.out.below⟩
theorem ansI_done (v : Value) (b : BookD) (w : World) (h : RdB w w.heap.size v b) (hok : bookOk b = true) (hp : PowTab w) :
  Calls Tryz.prog 50 #[v, .string ⟨#[100, 111, 110, 101]⟩] w fun e w' => e = .returned (.string ⟨(decT b.done.length).toArray⟩) ∧ Below w.heap.size w w' := by
 obtain ⟨A, n, c, A', n', c', A2, n2, c2, hv⟩ := h.form; obtain ⟨os, hos⟩ : ∃ x, b.order.start = x := ⟨_, rfl⟩; obtain ⟨st, hst⟩ : ∃ x, b.state = x := ⟨_, rfl⟩; rw [hos, hst] at hv; subst hv; have HS0 := Lib.hid ((St.refl w).alloc #[.int .i64 os, .slice A n c, .slice A' n' c', .slice A2 n2 c2, .int .i64 st] 28); obtain ⟨hbt, -, hbs, -⟩ := bookOk_parts hok; have HB := Lib.hid h; have HTO := Lib.hid h.order; have HTF := Lib.hid (h.from_ hst.symm); have HOK := Lib.hid hbt; have HOF := Lib.hid (taskOk_from hbt hbs); have HL2 := Lib.hid h.done.1.len; have HSD := Lib.hid hbs; have HN2 : Hid (n2 < 100000000000) := Lib.hid (by have := h.done.2.1; omega); have HPW := Lib.hid hp; rw [h.done.1.len]; clear hp; clear h hok hbt hbs hos hst; go_enter Tryz.func50, Tryz.ntmps50
 go_wp2_with fail
 refine (itoa_dec n2 HN2.out _ (HPW.out.up HS0.out.below)).mono ?_; rintro e w2 ⟨rfl, hb2⟩; have HS2 := Lib.hid (HS0.out.quiet hb2); clear hb2 HS0; go_wp2; go_ret; exact ⟨rfl, HS2.out.below⟩
theorem ansI_may (v : Value) (b : BookD) (w : World) (h : RdB w w.heap.size v b) (hok : bookOk b = true) :
  Calls Tryz.prog 50 #[v, .string ⟨#[109, 97, 121]⟩] w fun e w' => e = .returned (.string ⟨(mayT (deedsMay b.order b.state)).toArray⟩) ∧ Below w.heap.size w w' := by
 obtain ⟨A, n, c, A', n', c', A2, n2, c2, hv⟩ := h.form; obtain ⟨os, hos⟩ : ∃ x, b.order.start = x := ⟨_, rfl⟩; obtain ⟨st, hst⟩ : ∃ x, b.state = x := ⟨_, rfl⟩; rw [hos, hst] at hv; subst hv; have HS0 := Lib.hid ((St.refl w).alloc #[.int .i64 os, .slice A n c, .slice A' n' c', .slice A2 n2 c2, .int .i64 st] 28); obtain ⟨hbt, -, hbs, -⟩ := bookOk_parts hok; have HB := Lib.hid h; have HTO := Lib.hid h.order; have HTF := Lib.hid (h.from_ hst.symm); have HOK := Lib.hid hbt; have HOF := Lib.hid (taskOk_from hbt hbs); have HL2 := Lib.hid h.done.1.len; have HSD := Lib.hid hbs; rw [hst]; have HM : Hid (∀ x ∈ deedsMay b.order st, 0 ≤ x ∧ x < 100) := Lib.hid fun x hx => by have := deedsMay_bd hx; omega
 have HML : Hid ((deedsMay b.order st).length ≤ 100) := Lib.hid (by have := deedsMay_len b.order st; omega); clear h hok hbt hbs hos hst; go_enter Tryz.func50, Tryz.ntmps50
 go_wp2_with fail
 refine (deedsMay_impl _ b.order st _ (HTO.out.up HS0.out.below)).mono ?_; rintro e w1 ⟨v1, rfl, s1⟩; have S1 := HS0.out.call s1; obtain ⟨A1, c1, rfl, hri⟩ := S1.rdI 1 rfl; have HRI := Lib.hid hri; have HS1 := Lib.hid S1; clear S1 s1 HS0 hri; simp only [id]
 go_wp2_with fail
 refine (mayText_any A1 _ c1 (deedsMay b.order st) _ HRI.out HM.out HML.out).mono ?_; rintro e w2 ⟨rfl, hb2⟩; have HS2 := Lib.hid (HS1.out.quiet hb2); clear hb2; go_wp2; go_ret; exact ⟨rfl, HS2.out.below⟩
theorem ansI_left (v : Value) (b : BookD) (w : World) (h : RdB w w.heap.size v b) (hok : bookOk b = true) (hp : PowTab w) :
  Calls Tryz.prog 50 #[v, .string ⟨#[108, 101, 102, 116]⟩] w fun e w' => e = .returned (.string ⟨(leftT (restFor b)).toArray⟩) ∧ Below w.heap.size w w' := by
 obtain ⟨A, n, c, A', n', c', A2, n2, c2, hv⟩ := h.form; obtain ⟨os, hos⟩ : ∃ x, b.order.start = x := ⟨_, rfl⟩; obtain ⟨st, hst⟩ : ∃ x, b.state = x := ⟨_, rfl⟩; rw [hos, hst] at hv; subst hv; have HS0 := Lib.hid ((St.refl w).alloc #[.int .i64 os, .slice A n c, .slice A' n' c', .slice A2 n2 c2, .int .i64 st] 28); obtain ⟨hbt, -, hbs, -⟩ := bookOk_parts hok; have HB := Lib.hid h; have HTO := Lib.hid h.order; have HTF := Lib.hid (h.from_ hst.symm); have HOK := Lib.hid hbt; have HOF := Lib.hid (taskOk_from hbt hbs); have HL2 := Lib.hid h.done.1.len; have HSD := Lib.hid hbs; obtain ⟨o, ho⟩ : ∃ o, restFor b = o := ⟨_, rfl⟩; have HO := Bx.mk ho; have HOL : Hid (∀ p, o = some p → p.length < 100000000000) := Lib.hid fun p hp => by have := restFor_len2 b; rw [ho, hp] at this; simp at this; omega
 have HPW := Lib.hid hp; rw [ho]; clear hp ho; clear h hok hbt hbs hos hst; go_enter Tryz.func50, Tryz.ntmps50
 go_wp2_with fail
 refine (restFor_impl _ b _ (HB.out.up HS0.out.below)).mono ?_; rw [HO.out]; rintro e w1 ⟨v1, rfl, s1⟩; have HS1 := Lib.hid (HS0.out.call s1); clear s1 HS0
 cases o with
 | none =>
  simp only [Option.isSome_none]; go_wp2; go_ret; exact ⟨rfl, HS1.out.below⟩
 | some p =>
  obtain ⟨A1, c1, rfl, hri⟩ := HS1.out.rdI 1 rfl; simp only [Option.isSome_some, Option.getD_some]; clear hri; obtain ⟨pn, hpn⟩ : ∃ x, p.length = x := ⟨_, rfl⟩; have HPN := Lib.hid hpn; rw [hpn]; have HPB : Hid (pn < 100000000000) := Lib.hid (by have := HOL.out p rfl; omega); clear hpn
  go_wp2_with fail
  refine (itoa_dec pn HPB.out _ (HPW.out.up HS1.out.below)).mono ?_; rintro e w2 ⟨rfl, hb2⟩; have HS2 := Lib.hid (HS1.out.quiet hb2); clear hb2; go_wp2; go_ret; exact ⟨by rw [leftT, HPN.out]; rfl, HS2.out.below⟩
theorem ansI_ended (v : Value) (b : BookD) (w : World) (h : RdB w w.heap.size v b) (hok : bookOk b = true) :
  Calls Tryz.prog 50 #[v, .string ⟨#[101, 110, 100, 101, 100]⟩] w fun e w' => e = .returned (.string ⟨(endedT (bookEnded b)).toArray⟩) ∧ Below w.heap.size w w' := by
 obtain ⟨A, n, c, A', n', c', A2, n2, c2, hv⟩ := h.form; obtain ⟨os, hos⟩ : ∃ x, b.order.start = x := ⟨_, rfl⟩; obtain ⟨st, hst⟩ : ∃ x, b.state = x := ⟨_, rfl⟩; rw [hos, hst] at hv; subst hv; have HS0 := Lib.hid ((St.refl w).alloc #[.int .i64 os, .slice A n c, .slice A' n' c', .slice A2 n2 c2, .int .i64 st] 28); obtain ⟨hbt, -, hbs, -⟩ := bookOk_parts hok; have HB := Lib.hid h; have HTO := Lib.hid h.order; have HTF := Lib.hid (h.from_ hst.symm); have HOK := Lib.hid hbt; have HOF := Lib.hid (taskOk_from hbt hbs); have HL2 := Lib.hid h.done.1.len; have HSD := Lib.hid hbs; obtain ⟨o, ho⟩ : ∃ o, bookEnded b = o := ⟨_, rfl⟩; have HO := Bx.mk ho; rw [ho]; clear ho; clear h hok hbt hbs hos hst; go_enter Tryz.func50, Tryz.ntmps50
 go_wp2_with fail
 refine (bookEnded_impl _ b _ (HB.out.up HS0.out.below)).mono ?_; rw [HO.out]; rintro e w2 ⟨rfl, hb2⟩; have HS2 := Lib.hid (HS0.out.quiet hb2); clear hb2 HS0
 cases o with
 | false =>
  go_wp2; go_ret; exact ⟨rfl, HS2.out.below⟩
 | true =>
  go_wp2; go_ret; exact ⟨rfl, HS2.out.below⟩
theorem ansI_proof (v : Value) (b : BookD) (w : World) (h : RdB w w.heap.size v b) (hok : bookOk b = true) (hp : PowTab w) :
  Calls Tryz.prog 50 #[v, .string ⟨#[112, 114, 111, 111, 102]⟩] w fun e w' => e = .returned (.string ⟨(proofT (taskFrom b)).toArray⟩) ∧ Below w.heap.size w w' := by
 obtain ⟨A, n, c, A', n', c', A2, n2, c2, hv⟩ := h.form; obtain ⟨os, hos⟩ : ∃ x, b.order.start = x := ⟨_, rfl⟩; obtain ⟨st, hst⟩ : ∃ x, b.state = x := ⟨_, rfl⟩; rw [hos, hst] at hv; subst hv; have HS0 := Lib.hid ((St.refl w).alloc #[.int .i64 os, .slice A n c, .slice A' n' c', .slice A2 n2 c2, .int .i64 st] 28); obtain ⟨hbt, -, hbs, -⟩ := bookOk_parts hok; have HB := Lib.hid h; have HTO := Lib.hid h.order; have HTF := Lib.hid (h.from_ hst.symm); have HOK := Lib.hid hbt; have HOF := Lib.hid (taskOk_from hbt hbs); have HL2 := Lib.hid h.done.1.len; have HSD := Lib.hid hbs; have HPW := Lib.hid hp; clear hp; clear h hok hbt hbs hos hst; go_enter Tryz.func50, Tryz.ntmps50
 go_wp2_with fail
 refine (taskFrom_any os st A n c A' n' c' A2 n2 c2 _).mono ?_; rintro e w1 ⟨rfl, hb1⟩; have HS1 := Lib.hid (HS0.out.quiet hb1); clear hb1
 go_wp2_with fail
 refine (proofText_impl _ (taskFrom b) _ (HTF.out.up HS1.out.below) HOF.out (HPW.out.up HS1.out.below)).mono ?_; rintro e w2 ⟨rfl, hb2⟩; have HS2 := Lib.hid (HS1.out.quiet hb2); clear hb2; go_wp2; go_ret; exact ⟨rfl, HS2.out.below⟩
theorem ansI_check (v : Value) (b : BookD) (s : ByteArray) (r : List UInt8) (w : World) (h : RdB w w.heap.size v b) (hok : bookOk b = true) (h1 : s.data.toList ≠ stateW) (h2 : s.data.toList ≠ taskW) (h3 : s.data.toList ≠ doneW) (h4 : s.data.toList ≠ mayW) (h5 : s.data.toList ≠ leftW) (h6 : s.data.toList ≠ endedW) (h7 : s.data.toList ≠ proofW) (he : ErrH w) (hs : s.size < 4294967281) (hd : s.data.toList = checkW ++ r) (hr : r ≠ []) :
  Calls Tryz.prog 50 #[v, .string s] w fun e w' => e = .returned (.string ⟨(verdictW (proofRight (taskFrom b) r)).toArray⟩) ∧ Below w.heap.size w w' := by
 obtain ⟨A, n, c, A', n', c', A2, n2, c2, hv⟩ := h.form; obtain ⟨os, hos⟩ : ∃ x, b.order.start = x := ⟨_, rfl⟩; obtain ⟨st, hst⟩ : ∃ x, b.state = x := ⟨_, rfl⟩; rw [hos, hst] at hv; subst hv; have HS0 := Lib.hid ((St.refl w).alloc #[.int .i64 os, .slice A n c, .slice A' n' c', .slice A2 n2 c2, .int .i64 st] 28); obtain ⟨hbt, -, hbs, -⟩ := bookOk_parts hok; have HB := Lib.hid h; have HTO := Lib.hid h.order; have HTF := Lib.hid (h.from_ hst.symm); have HOK := Lib.hid hbt; have HOF := Lib.hid (taskOk_from hbt hbs); have HL2 := Lib.hid h.done.1.len; have HSD := Lib.hid hbs; have b1 : (s.toList == [115, 116, 97, 116, 101]) = false := by rw [Bool.eq_false_iff, Lib.toList_data]; intro h; exact h1 (beq_iff_eq.1 h)
 have b2 : (s.toList == [116, 97, 115, 107]) = false := by rw [Bool.eq_false_iff, Lib.toList_data]; intro h; exact h2 (beq_iff_eq.1 h)
 have b3 : (s.toList == [100, 111, 110, 101]) = false := by rw [Bool.eq_false_iff, Lib.toList_data]; intro h; exact h3 (beq_iff_eq.1 h)
 have b4 : (s.toList == [109, 97, 121]) = false := by rw [Bool.eq_false_iff, Lib.toList_data]; intro h; exact h4 (beq_iff_eq.1 h)
 have b5 : (s.toList == [108, 101, 102, 116]) = false := by rw [Bool.eq_false_iff, Lib.toList_data]; intro h; exact h5 (beq_iff_eq.1 h)
 have b6 : (s.toList == [101, 110, 100, 101, 100]) = false := by rw [Bool.eq_false_iff, Lib.toList_data]; intro h; exact h6 (beq_iff_eq.1 h)
 have b7 : (s.toList == [112, 114, 111, 111, 102]) = false := by rw [Bool.eq_false_iff, Lib.toList_data]; intro h; exact h7 (beq_iff_eq.1 h)
 clear h1 h2 h3 h4 h5 h6 h7; have hcp := fun w => cutPrefix_yes s ⟨#[99, 104, 101, 99, 107, 32]⟩ r w hd
 have hrs : (⟨r.toArray⟩ : ByteArray).size < 4294967281 := by
  have : s.size = 6 + r.length := by rw [Lib.size_eq s, hd]; simp [checkW]; omega
  show r.toArray.size < _
  rw [List.size_toArray]; omega
 have hpr := fun w' (hb : Below w.heap.size w w') => proofRight_impl _ (taskFrom b) ⟨r.toArray⟩ w' ((h.from_ hst.symm).up hb) (taskOk_from hbt hbs) (he.up hb) hrs
 rw [show (⟨r.toArray⟩ : ByteArray).data.toList = r from rfl] at hpr; have hre : ((⟨r.toArray⟩ : ByteArray).toList == []) = false := by rw [Bool.eq_false_iff, Lib.toList_data]; intro h; exact hr (beq_iff_eq.1 h)
 obtain ⟨rb, hrb⟩ : ∃ x, (⟨r.toArray⟩ : ByteArray) = x := ⟨_, rfl⟩; rw [hrb] at hcp hpr hre; obtain ⟨z, hz⟩ : ∃ z, proofRight (taskFrom b) r = z := ⟨_, rfl⟩; rw [hz] at hpr ⊢
 obtain ⟨e1, hze1⟩ : ∃ e, (z == 1) = e := ⟨_, rfl⟩; obtain ⟨e0, hze0⟩ : ∃ e, (z == 0) = e := ⟨_, rfl⟩; have HZ1 := Lib.hid hze1; have HZ0 := Lib.hid hze0; have HCP := Lib.hid hcp; have HPR := Lib.hid hpr; clear hcp hpr hrs hd hs he hr hrb hz; clear h hok hbt hbs hos hst; go_enter Tryz.func50, Tryz.ntmps50
 go_wp2_with fail
 refine (HCP.out _).mono ?_; rintro e w1 ⟨rfl, rfl⟩
 go_wp2_with fail
 refine (taskFrom_any os st A n c A' n' c' A2 n2 c2 _).mono ?_; rintro e w1 ⟨rfl, hb1⟩; have HS1 := Lib.hid (HS0.out.quiet hb1); clear hb1
 go_wp2_with fail
 refine (HPR.out _ HS1.out.below).mono ?_; rintro e w2 ⟨rfl, hb2⟩; have HS2 := Lib.hid (HS1.out.quiet hb2); clear hb2
 cases e1 with
 | true =>
  go_wp2; go_ret; exact ⟨by rw [verdictW, if_pos (beq_iff_eq.1 HZ1.out)]; rfl, HS2.out.below⟩
 | false =>
  cases e0 with
  | true =>
   go_wp2; go_ret; exact ⟨by rw [verdictW, if_neg (fun h => by have := HZ1.out; rw [h] at this; cases this), if_pos (beq_iff_eq.1 HZ0.out)]; rfl, HS2.out.below⟩
  | false =>
   go_wp2; go_ret; exact ⟨by rw [verdictW, if_neg (fun h => by have := HZ1.out; rw [h] at this; cases this), if_neg (fun h => by have := HZ0.out; rw [h] at this; cases this)]; rfl, HS2.out.below⟩
theorem ansI_empty (v : Value) (b : BookD) (w : World) (h : RdB w w.heap.size v b) (hok : bookOk b = true) :
  Calls Tryz.prog 50 #[v, .string ⟨#[99, 104, 101, 99, 107, 32]⟩] w fun e w' => e = .returned (.string ⟨(whatW).toArray⟩) ∧ Below w.heap.size w w' := by
 obtain ⟨A, n, c, A', n', c', A2, n2, c2, hv⟩ := h.form; obtain ⟨os, hos⟩ : ∃ x, b.order.start = x := ⟨_, rfl⟩; obtain ⟨st, hst⟩ : ∃ x, b.state = x := ⟨_, rfl⟩; rw [hos, hst] at hv; subst hv; have HS0 := Lib.hid ((St.refl w).alloc #[.int .i64 os, .slice A n c, .slice A' n' c', .slice A2 n2 c2, .int .i64 st] 28); obtain ⟨hbt, -, hbs, -⟩ := bookOk_parts hok; have HB := Lib.hid h; have HTO := Lib.hid h.order; have HTF := Lib.hid (h.from_ hst.symm); have HOK := Lib.hid hbt; have HOF := Lib.hid (taskOk_from hbt hbs); have HL2 := Lib.hid h.done.1.len; have HSD := Lib.hid hbs; clear h hok hbt hbs hos hst; go_enter Tryz.func50, Tryz.ntmps50
 go_wp2_with fail
 refine (cutPrefix_yes ⟨#[99, 104, 101, 99, 107, 32]⟩ ⟨#[99, 104, 101, 99, 107, 32]⟩ [] _ rfl).mono ?_; rintro e w1 ⟨rfl, rfl⟩; have HS2 := HS0; go_wp2; go_ret; exact ⟨rfl, HS2.out.below⟩
theorem ansI_other (v : Value) (b : BookD) (s : ByteArray) (w : World) (h : RdB w w.heap.size v b) (hok : bookOk b = true) (h1 : s.data.toList ≠ stateW) (h2 : s.data.toList ≠ taskW) (h3 : s.data.toList ≠ doneW) (h4 : s.data.toList ≠ mayW) (h5 : s.data.toList ≠ leftW) (h6 : s.data.toList ≠ endedW) (h7 : s.data.toList ≠ proofW) (hd : checkW.isPrefixOf s.data.toList = false) :
  Calls Tryz.prog 50 #[v, .string s] w fun e w' => e = .returned (.string ⟨(whatW).toArray⟩) ∧ Below w.heap.size w w' := by
 obtain ⟨A, n, c, A', n', c', A2, n2, c2, hv⟩ := h.form; obtain ⟨os, hos⟩ : ∃ x, b.order.start = x := ⟨_, rfl⟩; obtain ⟨st, hst⟩ : ∃ x, b.state = x := ⟨_, rfl⟩; rw [hos, hst] at hv; subst hv; have HS0 := Lib.hid ((St.refl w).alloc #[.int .i64 os, .slice A n c, .slice A' n' c', .slice A2 n2 c2, .int .i64 st] 28); obtain ⟨hbt, -, hbs, -⟩ := bookOk_parts hok; have HB := Lib.hid h; have HTO := Lib.hid h.order; have HTF := Lib.hid (h.from_ hst.symm); have HOK := Lib.hid hbt; have HOF := Lib.hid (taskOk_from hbt hbs); have HL2 := Lib.hid h.done.1.len; have HSD := Lib.hid hbs; have b1 : (s.toList == [115, 116, 97, 116, 101]) = false := by rw [Bool.eq_false_iff, Lib.toList_data]; intro h; exact h1 (beq_iff_eq.1 h)
 have b2 : (s.toList == [116, 97, 115, 107]) = false := by rw [Bool.eq_false_iff, Lib.toList_data]; intro h; exact h2 (beq_iff_eq.1 h)
 have b3 : (s.toList == [100, 111, 110, 101]) = false := by rw [Bool.eq_false_iff, Lib.toList_data]; intro h; exact h3 (beq_iff_eq.1 h)
 have b4 : (s.toList == [109, 97, 121]) = false := by rw [Bool.eq_false_iff, Lib.toList_data]; intro h; exact h4 (beq_iff_eq.1 h)
 have b5 : (s.toList == [108, 101, 102, 116]) = false := by rw [Bool.eq_false_iff, Lib.toList_data]; intro h; exact h5 (beq_iff_eq.1 h)
 have b6 : (s.toList == [101, 110, 100, 101, 100]) = false := by rw [Bool.eq_false_iff, Lib.toList_data]; intro h; exact h6 (beq_iff_eq.1 h)
 have b7 : (s.toList == [112, 114, 111, 111, 102]) = false := by rw [Bool.eq_false_iff, Lib.toList_data]; intro h; exact h7 (beq_iff_eq.1 h)
 clear h1 h2 h3 h4 h5 h6 h7; have hcp := fun w => cutPrefix_no s ⟨#[99, 104, 101, 99, 107, 32]⟩ w hd
 have HCP := Lib.hid hcp; clear hcp hd; clear h hok hbt hbs hos hst; go_enter Tryz.func50, Tryz.ntmps50
 go_wp2_with fail
 refine (HCP.out _).mono ?_; rintro e w1 ⟨rfl, rfl⟩; have HS2 := HS0; go_wp2; go_ret; exact ⟨rfl, HS2.out.below⟩
theorem answerTo_impl (v : Value) (b : BookD) (s : ByteArray) (w : World) (h : RdB w w.heap.size v b) (hok : bookOk b = true) (he : ErrH w) (hp : PowTab w) (hs : s.size < 4294967281) :
  Calls Tryz.prog 50 #[v, .string s] w fun e w' => e = .returned (.string ⟨(askT b s.data.toList).toArray⟩) ∧ Below w.heap.size w w' := by
 by_cases h1 : s.data.toList = stateW
 ·obtain rfl := ba_eq h1; exact ansI_state v b w h hok
 by_cases h2 : s.data.toList = taskW
 ·obtain rfl := ba_eq h2; exact ansI_task v b w h hok
 by_cases h3 : s.data.toList = doneW
 ·obtain rfl := ba_eq h3; exact ansI_done v b w h hok hp
 by_cases h4 : s.data.toList = mayW
 ·obtain rfl := ba_eq h4; exact ansI_may v b w h hok
 by_cases h5 : s.data.toList = leftW
 ·obtain rfl := ba_eq h5; exact ansI_left v b w h hok hp
 by_cases h6 : s.data.toList = endedW
 ·obtain rfl := ba_eq h6; exact ansI_ended v b w h hok
 by_cases h7 : s.data.toList = proofW
 ·obtain rfl := ba_eq h7; exact ansI_proof v b w h hok hp
 have ha : askT b s.data.toList = if checkW.isPrefixOf s.data.toList = true ∧ 6 < s.data.toList.length then verdictW (proofRight (taskFrom b) (s.data.toList.drop 6)) else whatW := by
  unfold askT; rw [if_neg h1, if_neg h2, if_neg h3, if_neg h4, if_neg h5, if_neg h6, if_neg h7]
 rw [ha]
 cases hc : checkW.isPrefixOf s.data.toList with
 | false => rw [if_neg (by simp)]; exact ansI_other v b s w h hok h1 h2 h3 h4 h5 h6 h7 hc
 | true =>
  obtain ⟨r, hr⟩ := List.isPrefixOf_iff_prefix.1 hc
  by_cases hl : r = []
  ·rw [if_neg (by rw [← hr, hl]; simp [checkW])]; obtain rfl := ba_eq (show s.data.toList = checkW by rw [← hr, hl, List.append_nil]); exact ansI_empty v b w h hok
  ·rw [if_pos ⟨rfl, by have := List.length_pos_iff.2 hl; rw [← hr]; simp [checkW]; omega⟩, show s.data.toList.drop 6 = r by rw [← hr]; rfl]; exact ansI_check v b s r w h hok h1 h2 h3 h4 h5 h6 h7 he hs hr.symm hl
end Go.Proofs.YtkmcengmglgdeaaGreatDoor
