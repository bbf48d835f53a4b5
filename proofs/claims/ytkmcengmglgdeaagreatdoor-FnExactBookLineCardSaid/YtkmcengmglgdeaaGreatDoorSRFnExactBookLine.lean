
import Derived.Test.YtkmcengmglgdeaaGreatDoorSLineS
import Derived.Test.YtkmcengmglgdeaaGreatDoorSActsH
namespace Go.Proofs.YtkmcengmglgdeaaGreatDoor
set_option linter.unusedVariables false
set_option linter.unusedSimpArgs false
set_option maxRecDepth 100000
set_option maxHeartbeats 8000000
open Go.ChangeShapes Go.WideShapes Go.ChangeAt Go.RowKit
theorem mkB_say (b : BookD) (l : List UInt8) : mkB (sayB b l).1 ≤ mkB b + 40 := by
 cases hb : bookOk b with
 | true =>
  obtain ⟨h1, h2, -⟩ := sayB_ok l hb
  have := (bookOk_parts h1).2.1
  unfold mkB
  rw [h2]
  omega
 | false =>
  rw [sayB_bad hb]; exact Nat.zero_le _
theorem say_spec (v : Value) (b x : BookD) (s ans : ByteArray) (w : World) (h : RdB w w.heap.size v b) (hs : s.size ≤ 1048576) (hx : (sayB b s.data.toList).1 = x) (ha : (⟨(sayB b s.data.toList).2.toArray⟩ : ByteArray) = ans) :
  Calls Tryz.prog 10 #[v, .string s] w (Gives w (fun v => .tuple #[v, .string ans]) fun v => [rBook v x]) := by
 subst hx ha; exact bookLine_spec v b s w h (by omega)
theorem say_impl (v : Value) (b x : BookD) (s ans : ByteArray) (w : World) (h : RdB w w.heap.size v b) (he : ErrH w) (hp : PowTab w) (hs : s.size ≤ 1048576) (hx : (sayB b s.data.toList).1 = x) (ha : (⟨(sayB b s.data.toList).2.toArray⟩ : ByteArray) = ans) :
  Calls Tryz.prog 9 #[v, .string s] w (Gives w (fun v => .tuple #[v, .string ans]) fun v => [rBook v x]) := by
 subst hx ha; exact bookLine_impl v b s w h he hp (by omega)
theorem FnExactBookLine_walk (v0 : Value) (x0 : BookD) (a1 : ByteArray) (w : World) (h0 : RdBM maxLen w w.heap.size v0 x0) (h1 : a1.size ≤ 9223372036854775807) (he : ErrH w) (hp : PowTab w) :
  Calls Tryz.prog 7 #[v0, .string a1] w fun e w' => e = .returned (.bool true) ∧ Below w.heap.size w w' := by
 obtain ⟨Ax0, nx0, cx0, Bx0, mx0, dx0, Cx0, lx0, fx0, hv0⟩ := h0.form; subst hv0; have S1a : St w (w.alloc (Obj.cells #[.int .i64 (x0).order.start, .slice Ax0 nx0 cx0, .slice Bx0 mx0 dx0, .slice Cx0 lx0 fx0, .int .i64 (x0).state] 42)) [rBlk w.heap.size 42 #[.int .i64 (x0).order.start, .slice Ax0 nx0 cx0, .slice Bx0 mx0 dx0, .slice Cx0 lx0 fx0, .int .i64 (x0).state]] := ((St.refl w).alloc #[.int .i64 (x0).order.start, .slice Ax0 nx0 cx0, .slice Bx0 mx0 dx0, .slice Cx0 lx0 fx0, .int .i64 (x0).state] 42); have q2 := S1a.cells 0 rfl
 by_cases hb1 : a1.size ≤ 1048576
 case neg =>
  have hb1i : (1048576 : Int) < (a1.size : Int) := by omega
  go_enter Tryz.func7, Tryz.ntmps7; go_wp2; go_ret; exact ⟨rfl, S1a.below⟩
 have hb1i : ¬ (1048576 : Int) < (a1.size : Int) := by omega
 obtain ⟨xb, hxb⟩ : ∃ y, (sayB x0 a1.data.toList).1 = y := ⟨_, rfl⟩; obtain ⟨ans, hans⟩ : ∃ y, (⟨(sayB x0 a1.data.toList).2.toArray⟩ : ByteArray) = y := ⟨_, rfl⟩; have HXB := Bx.mk hxb; have HANS := Bx.mk hans; have HB1 := Bx.mk hb1; have HE := Lib.hid he; have HP := Lib.hid hp; have hmk9 : mkB xb ≤ mkB x0 + 40 := by rw [← hxb]; exact mkB_say x0 _
 clear he hp hxb hans hb1 h1
 by_cases hz0 : ((szB x0 : Nat) : Int) ≤ 1048576 - 0
 case neg =>
  go_enter Tryz.func7, Tryz.ntmps7
  go_wp2_with fail
  refine (szBook_any (M := maxLen) (by unfold maxLen; omega) _ x0 _ _ (h0.up S1a.below) (by omega) (by omega)).mono ?_; rw [less_no (by omega)]; rintro e w' ⟨rfl, hb⟩; go_wp2; go_ret; exact ⟨rfl, (S1a.quiet hb).below⟩
 have hr0 := h0.less (M' := 1048576) (by omega); have HR0 := Lib.hid hr0; clear hr0; have hmk0 : mkB x0 ≤ 4194304 := by have := mkB_le x0; omega
 have hM0 : mkB xb ≤ 8388608 := by omega
 go_enter Tryz.func7, Tryz.ntmps7
 go_wp2_with fail
 refine (szBook_any (M := maxLen) (by unfold maxLen; omega) _ x0 _ _ (h0.up S1a.below) (by omega) (by omega)).mono ?_; rw [less_yes (by omega)]; rintro e w103 ⟨rfl, hb3⟩; have S3 := S1a.quiet hb3; clear q2; have q4 := S3.cells 0 rfl; clear q4; have q5 := S3.cells 0 rfl
 go_wp2_with fail
 refine (toBook_st _ x0 _ (HR0.out.up S3.below)).mono ?_; rintro e w106 ⟨v6, rfl, s6⟩; obtain ⟨A6, n6, c6, B6, m6, d6, C6, l6, f6, hv⟩ := s6.formB 0 rfl; subst hv; have S6 := S3.call s6
 go_wp2_with fail
 refine (say_spec _ x0 xb a1 ans _ (S6.rdB 1 rfl) HB1.out HXB.out HANS.out).mono ?_; rintro e w107 ⟨v7, rfl, s7⟩; obtain ⟨A7, n7, c7, B7, m7, d7, C7, l7, f7, hv⟩ := s7.formB 0 rfl; subst hv; have S7 := S6.call s7; have S8a := (S7.alloc #[.int .i64 ((xb)).order.start, .slice A7 n7 c7, .slice B7 m7 d7, .slice C7 l7 f7, .int .i64 ((xb)).state] 28); clear q5; have q9 := S8a.cells 0 rfl; have q10 := S8a.cells 3 rfl
 go_wp2_with fail
 refine (toBook_st _ x0 _ (HR0.out.up S8a.below)).mono ?_; rintro e w111 ⟨v11, rfl, s11⟩; obtain ⟨A11, n11, c11, B11, m11, d11, C11, l11, f11, hv⟩ := s11.formB 0 rfl; subst hv; have S11 := S8a.call s11; have S12a := (S11.alloc #[.int .i64 (x0).order.start, .slice A11 n11 c11, .slice B11 m11 d11, .slice C11 l11 f11, .int .i64 (x0).state] 28); clear q9 q10; have q13 := S12a.cells 0 rfl; have q14 := S12a.cells 3 rfl; have q15 := S12a.cells 5 rfl
 go_wp2_with fail
 refine (say_impl _ x0 xb a1 ans _ (S12a.rdB 4 rfl) (HE.out.up S12a.below) (HP.out.up S12a.below) HB1.out HXB.out HANS.out).mono ?_; rintro e w116 ⟨v16, rfl, s16⟩; obtain ⟨A16, n16, c16, B16, m16, d16, C16, l16, f16, hv⟩ := s16.formB 0 rfl; subst hv; have S16 := S12a.call s16; have S17a := (S16.alloc #[.int .i64 ((xb)).order.start, .slice A16 n16 c16, .slice B16 m16 d16, .slice C16 l16 f16, .int .i64 ((xb)).state] 28); clear q13 q14 q15; have q18 := S17a.cells 0 rfl; have q19 := S17a.cells 3 rfl; have q20 := S17a.cells 5 rfl; have q21 := S17a.cells 7 rfl
 go_wp2_with fail
 refine (eqBook_same _ (xb) _ _ (S17a.rdB 6 rfl) (S17a.rdB 2 rfl)).mono ?_; rintro e w122 ⟨rfl, hb22⟩; have S22 := S17a.quiet hb22; clear q18 q19 q20 q21; have q23 := S22.cells 0 rfl; have q24 := S22.cells 3 rfl; have q25 := S22.cells 5 rfl; have q26 := S22.cells 7 rfl
 go_upto_region 12 with (fail)
 refine wpr (σ := Value)
  (fun s i => match i with
   | 0 => .agg #[.int .i64 (x0).order.start, .slice A11 n11 c11, .slice B11 m11 d11, .slice C11 l11 f11, .int .i64 (x0).state]
   | 1 => .agg #[.int .i64 (x0).order.start, .slice Ax0 nx0 cx0, .slice Bx0 mx0 dx0, .slice Cx0 lx0 fx0, .int .i64 (x0).state]
   | 2 => s
   | 3 => .bool true
   | 4 => .bool false
   | _ => undef)
  (fun D s wx27 => Sn w wx27 fun i => match i with
   | 0 => some (rBlk w.heap.size 42 #[.int .i64 (x0).order.start, .slice Ax0 nx0 cx0, .slice Bx0 mx0 dx0, .slice Cx0 lx0 fx0, .int .i64 (x0).state])
   | 1 => some (rBook (.agg #[.int .i64 (x0).order.start, .slice A6 n6 c6, .slice B6 m6 d6, .slice C6 l6 f6, .int .i64 (x0).state]) x0)
   | 2 => some (rBook (.agg #[.int .i64 ((xb)).order.start, .slice A7 n7 c7, .slice B7 m7 d7, .slice C7 l7 f7, .int .i64 ((xb)).state]) (xb))
   | 3 => some (rBlk w107.heap.size 28 #[.int .i64 ((xb)).order.start, .slice A7 n7 c7, .slice B7 m7 d7, .slice C7 l7 f7, .int .i64 ((xb)).state])
   | 4 => some (rBook (.agg #[.int .i64 (x0).order.start, .slice A11 n11 c11, .slice B11 m11 d11, .slice C11 l11 f11, .int .i64 (x0).state]) x0)
   | 5 => some (rBlk w111.heap.size 28 #[.int .i64 (x0).order.start, .slice A11 n11 c11, .slice B11 m11 d11, .slice C11 l11 f11, .int .i64 (x0).state])
   | 6 => some (rBook (.agg #[.int .i64 ((xb)).order.start, .slice A16 n16 c16, .slice B16 m16 d16, .slice C16 l16 f16, .int .i64 ((xb)).state]) (xb))
   | 7 => some (rBlk w116.heap.size 28 #[.int .i64 ((xb)).order.start, .slice A16 n16 c16, .slice B16 m16 d16, .slice C16 l16 f16, .int .i64 ((xb)).state])
   | 8 => if D 2 = true then some (rBook s x0) else none
   | _ => none)
  undef ?_ ?_ ?_
 ·intro D hD; refine ((Sn.of_st S22).quiet ((Below.refl _ _).drew)).congr fun i => ?_
  match i with
  | 0 | 1 | 2 | 3 | 4 | 5 | 6 | 7 => rfl
  | 8 => exact if_neg (by rw [hD 2 (by decide)]; simp)
  | q + 9 => rfl
 ·refine Cs (fun D s wx27 hR _ hd _ _ hs K hK => ?_) ?_
  ·have e8 := hs.o 8 (.pointer (some ⟨w111.heap.size, 0, none⟩)); clear hs; have qk := (hR.blk 5 rfl).cell; go_simp; exact hK s wx27 sv hR
  refine Cs (fun D s wx27 hR _ hd _ _ hs K hK => ?_) ?_
  ·have e2 := hs.o 2 (.pointer (some ⟨w.heap.size, 0, none⟩)); clear hs; have qk := (hR.blk 0 rfl).cell; go_simp; exact hK s wx27 sv hR
  refine Cs (fun D s wx27 hR (hDi : D 2 = false) hd hsh _ hs K hK => ?_) ?_
  ·have e49 := hs.v 1 49 hd; have g49 := getQ e49; clear hs; have n3 : D 3 = false := hsh.no hDi 3 rfl ⟨2, .data⟩ (by simp) rfl rfl; have n4 : D 4 = false := hsh.no n3 4 rfl ⟨3, .data⟩ (by simp) rfl rfl; go_simp; refine (toBook_st _ x0 _ (HR0.out.up hR.below)).mono ?_; rintro e w2 ⟨v2, rfl, s2⟩
   refine hK v2 w2
    (fun j hj => by
     match j, hj with
     | 0, hj | 1, hj => rfl
     | 2, hj => rw [hDi] at hj; cases hj
     | 3, hj | 4, hj => rfl
     | _ + 5, hj => rfl)
    ((hR.add 8 (if_neg (by rw [hDi]; simp)) s2).congr
     (fun i => by
      match i with
      | 0 | 1 | 2 | 3 | 4 | 5 | 6 | 7 | 8 => rfl
      | q + 9 => exact (if_neg (show ¬ (q + 9 = 8) by omega)).symm))
  refine Cs (fun D s wx27 hR _ hd _ _ hs K hK => ?_) ?_
  ·have e48 := hs.v 0 48 hd; have e50 := hs.v 2 50 hd; have g48 := getQ e48; have g50 := getQ e50; clear hs; have d2 : D 2 = true := hd ⟨2, .data⟩ (by simp) rfl; go_simp; refine (eqBook_same _ x0 _ _ (hR.rdB 4 rfl) (hR.rdB 8 (if_pos d2))).mono ?_; rintro e w2 ⟨rfl, hb2⟩; exact hK s w2 sv (hR.quiet hb2)
  refine Cs (fun D s wx27 hR _ hd _ _ hs K hK => ?_) ?_
  ·have e51 := hs.v 3 51 hd; clear hs; go_simp; exact hK s wx27 sv hR
  exact StepAll.nil
 ·intro D s wx27 hR hD; simp only [putA, Act.put, List.setIfInBounds_toArray, List.set_cons_zero, List.set_cons_succ]; have S28 : St w wx27 [rBlk w.heap.size 42 #[.int .i64 (x0).order.start, .slice Ax0 nx0 cx0, .slice Bx0 mx0 dx0, .slice Cx0 lx0 fx0, .int .i64 (x0).state], rBook (.agg #[.int .i64 (x0).order.start, .slice A6 n6 c6, .slice B6 m6 d6, .slice C6 l6 f6, .int .i64 (x0).state]) x0, rBook (.agg #[.int .i64 ((xb)).order.start, .slice A7 n7 c7, .slice B7 m7 d7, .slice C7 l7 f7, .int .i64 ((xb)).state]) (xb), rBlk w107.heap.size 28 #[.int .i64 ((xb)).order.start, .slice A7 n7 c7, .slice B7 m7 d7, .slice C7 l7 f7, .int .i64 ((xb)).state], rBook (.agg #[.int .i64 (x0).order.start, .slice A11 n11 c11, .slice B11 m11 d11, .slice C11 l11 f11, .int .i64 (x0).state]) x0, rBlk w111.heap.size 28 #[.int .i64 (x0).order.start, .slice A11 n11 c11, .slice B11 m11 d11, .slice C11 l11 f11, .int .i64 (x0).state], rBook (.agg #[.int .i64 ((xb)).order.start, .slice A16 n16 c16, .slice B16 m16 d16, .slice C16 l16 f16, .int .i64 ((xb)).state]) (xb), rBlk w116.heap.size 28 #[.int .i64 ((xb)).order.start, .slice A16 n16 c16, .slice B16 m16 d16, .slice C16 l16 f16, .int .i64 ((xb)).state]] := hR.to_st [0, 1, 2, 3, 4, 5, 6, 7] (by decide) rfl; clear hR hD; clear q23 q24 q25 q26; have q29 := S28.cells 0 rfl; have q30 := S28.cells 3 rfl; have q31 := S28.cells 5 rfl; have q32 := S28.cells 7 rfl
  go_wp2_with fail
  refine (markBook_st S28 4 rfl (1) (by omega)).mono ?_; rintro e w133 ⟨rfl, s33⟩; have S33 := s33; clear q29 q30 q31 q32; have q34 := S33.cells 0 rfl; have q35 := S33.cells 3 rfl; have q36 := S33.cells 5 rfl; have q37 := S33.cells 7 rfl
  go_wp2_with fail
  refine (eqBook_same _ (xb) _ _ (S33.rdB 6 rfl) (S33.rdB 2 rfl)).mono ?_; rintro e w138 ⟨rfl, hb38⟩; have S38 := S33.quiet hb38; clear q34 q35 q36 q37; have q39 := S38.cells 0 rfl; have q40 := S38.cells 3 rfl; have q41 := S38.cells 5 rfl; have q42 := S38.cells 7 rfl
  go_wp2_with fail
  refine (markBook_st S38 6 rfl (1) (by omega)).mono ?_; rintro e w143 ⟨rfl, s43⟩; have S43 := s43; clear q39 q40 q41 q42; have q44 := S43.cells 0 rfl; have q45 := S43.cells 3 rfl; have q46 := S43.cells 5 rfl; have q47 := S43.cells 7 rfl
  go_wp2_with fail
  refine (heldBook_any _ (1) (xb) _ (S43.rdB 6 rfl) (by omega)).mono ?_; rintro e w148 ⟨rfl, hb48⟩; have S48 := S43.quiet hb48; clear q44 q45 q46 q47; have q49 := S48.cells 0 rfl; have q50 := S48.cells 3 rfl; have q51 := S48.cells 5 rfl; have q52 := S48.cells 7 rfl; clear q49 q50 q51 q52; have q53 := S48.cells 0 rfl; have q54 := S48.cells 3 rfl; have q55 := S48.cells 5 rfl; have q56 := S48.cells 7 rfl
  go_wp2_with fail
  refine (toBook_st _ x0 _ (HR0.out.up S48.below)).mono ?_; rintro e w157 ⟨v57, rfl, s57⟩; obtain ⟨A57, n57, c57, B57, m57, d57, C57, l57, f57, hv⟩ := s57.formB 0 rfl; subst hv; have S57 := S48.call s57
  go_wp2_with fail
  refine (say_impl _ x0 xb a1 ans _ (S57.rdB 8 rfl) (HE.out.up S57.below) (HP.out.up S57.below) HB1.out HXB.out HANS.out).mono ?_; rintro e w158 ⟨v58, rfl, s58⟩; obtain ⟨A58, n58, c58, B58, m58, d58, C58, l58, f58, hv⟩ := s58.formB 0 rfl; subst hv; have S58 := S57.call s58; have S59a := (S58.alloc #[.int .i64 ((xb)).order.start, .slice A58 n58 c58, .slice B58 m58 d58, .slice C58 l58 f58, .int .i64 ((xb)).state] 28); clear q53 q54 q55 q56; have q60 := S59a.cells 0 rfl; have q61 := S59a.cells 3 rfl; have q62 := S59a.cells 5 rfl; have q63 := S59a.cells 7 rfl; have q64 := S59a.cells 10 rfl
  go_wp2_with fail
  refine (eqBook_same _ (xb) _ _ (S59a.rdB 9 rfl) (S59a.rdB 2 rfl)).mono ?_; rintro e w165 ⟨rfl, hb65⟩; have S65 := S59a.quiet hb65; clear q60 q61 q62 q63 q64; have q66 := S65.cells 0 rfl; have q67 := S65.cells 3 rfl; have q68 := S65.cells 5 rfl; have q69 := S65.cells 7 rfl; have q70 := S65.cells 10 rfl
  go_wp2_with fail
  refine (heldBook_any _ (1) (xb) _ (S65.rdB 6 rfl) (by omega)).mono ?_; rintro e w171 ⟨rfl, hb71⟩; have S71 := S65.quiet hb71; clear q66 q67 q68 q69 q70; have q72 := S71.cells 0 rfl; have q73 := S71.cells 3 rfl; have q74 := S71.cells 5 rfl; have q75 := S71.cells 7 rfl; have q76 := S71.cells 10 rfl; go_wp2; go_ret; exact ⟨rfl, S71.below⟩
end Go.Proofs.YtkmcengmglgdeaaGreatDoor
