/- The walk of the law FnBookDo: true for every drawn code. Printed by gen_lawbd.py. -/
import Derived.Test.YtkebgldeahklmaaSDrawBD
import Derived.Test.YtkebgldeahklmaaSRunB
import Derived.Test.YtkebgldeahklmaaSDraws
import Derived.Test.YtkebgldeahklmaaSGraphV
import Derived.Test.YtkebgldeahklmaaSIntS
namespace Go.Proofs.Ytkebgldeahklmaa
set_option linter.unusedVariables false
set_option linter.unusedSimpArgs false
open Go.ChangeShapes Go.WideShapes Go.ChangeAt Go.RowKit

theorem did_facts {b : BookD} {k m : Int} (h : bookDid b ⟨k, m⟩ = true) : bookOk b = true ∧ bookOk (bookDo b ⟨k, m⟩) = true ∧ (bookDo b ⟨k, m⟩).order = b.order ∧ bookDo b ⟨k, m⟩ ≠ b ∧
    (k = 0 → bookDid (bookDo b ⟨k, m⟩) ⟨1, 1⟩ = true ∧ bookDo (bookDo b ⟨k, m⟩) ⟨1, 1⟩ = b) ∧ (k = 3 → bookEnded (bookDo b ⟨k, m⟩) = true) ∧ (k = 2 → (bookDo b ⟨k, m⟩).state = b.state ∧ (bookDo b ⟨k, m⟩).done.length < b.done.length) ∧
    (k = 1 → 1 ≤ m ∧ m ≤ b.done.length ∧ ((bookDo b ⟨k, m⟩).done.length : Int) = b.done.length - m) ∧ (k = 0 ∨ k = 1 ∨ k = 2 ∨ k = 3) := by
  have hb : bookOk b = true := by unfold bookDid at h; cases hb : bookOk b with
    | true => rfl
    | false => rw [hb] at h; cases h
  obtain ⟨h1, h2, h3, h4⟩ := bookOk_parts hb
  cases hd : doneAfter b ⟨k, m⟩ with
  | none => rw [(bookDo_none hb hd).2] at h; cases h
  | some d =>
    have e := (bookDo_some hb hd).1
    have hx := withDone_ok hb hd
    have hr := doneAfter_run hb hd
    rw [e]
    have hne : d.length ≠ b.done.length → withDone b d ≠ b := fun hl he => hl (by rw [← he]; rfl)
    refine ⟨hb, hx, rfl, ?_, fun hk => ?_, fun hk => ?_, fun hk => ?_, fun hk => ?_, ?_⟩
    · refine hne ?_
      by_cases k0 : k = 0
      · subst k0; rw [done0] at hd; split at hd
        · injection hd with hd; subst hd; simp
        · cases hd
      by_cases k1 : k = 1
      · subst k1; rw [done1] at hd; split at hd
        · next hc => injection hd with hd; subst hd; rw [List.length_take]; omega
        · cases hd
      by_cases k2 : k = 2
      · subst k2; rw [done2] at hd; split at hd
        · next hc => injection hd with hd; subst hd; omega
        · cases hd
      by_cases k3 : k = 3
      · subst k3; rw [done3] at hd; split at hd
        · next hc => injection hd with hd; subst hd; rw [List.length_append]; omega
        · cases hd
      rw [done4 k0 k1 k2 k3] at hd; cases hd
    · subst hk
      rw [done0] at hd
      split at hd
      · injection hd with hd
        subst hd
        have hd1 : doneAfter (withDone b (b.done ++ [m])) ⟨1, 1⟩ = some b.done := by
          rw [done1]
          have hl : (withDone b (b.done ++ [m])).done.length = b.done.length + 1 := by unfold withDone; simp
          rw [if_pos (by rw [hl]; omega), hl]
          show some ((b.done ++ [m]).take (b.done.length + 1 - 1)) = some b.done
          rw [Nat.add_sub_cancel, List.take_append_of_le_length (Nat.le_refl _), List.take_length]
        obtain ⟨g1, g2⟩ := bookDo_some hx hd1
        exact ⟨g2, by rw [g1]; exact withDone_self hb⟩
      · cases hd
    · subst hk
      rw [done3] at hd
      split at hd
      · next hc =>
        injection hd with hd
        subst hd
        cases hrr : restFor b with
        | none => simp [hrr] at hc
        | some r =>
          simp only [hrr, Option.getD_some] at hc hx ⊢
          unfold bookEnded
          rw [hx, Bool.true_and]
          show evalCode b.order.goal (planRun b.order b.order.start (b.done ++ r)).toNat = true
          rw [planRun_app (by omega) hc.2.2, h4]
          exact (restFor_run hrr).2.2.2
      · cases hd
    · subst hk
      rw [done2] at hd
      split at hd
      · next hc =>
        injection hd with hd
        subst hd
        refine ⟨?_, hc.2⟩
        show planRun b.order b.order.start ((planShort b.order b.done).getD []) = b.state
        rw [planShort_ok hb, Option.getD_some, shortN_run (by omega), h4]
      · cases hd
    · subst hk
      rw [done1] at hd
      split at hd
      · next hc =>
        injection hd with hd
        subst hd
        refine ⟨hc.1, hc.2, ?_⟩
        show ((b.done.take (b.done.length - m.toNat)).length : Int) = _
        rw [List.length_take]
        omega
      · cases hd
    · by_cases k0 : k = 0
      · exact .inl k0
      by_cases k1 : k = 1
      · exact .inr (.inl k1)
      by_cases k2 : k = 2
      · exact .inr (.inr (.inl k2))
      by_cases k3 : k = 3
      · exact .inr (.inr (.inr k3))
      rw [done4 k0 k1 k2 k3] at hd; cases hd
set_option maxRecDepth 100000 in
set_option maxHeartbeats 2000000 in
theorem FnBookDo_walk (A : Option Addr) (n c : Nat) (xs : List Int) (w : World) (h : RdI .u8 w w.heap.size A n c xs) :
    Calls Try.prog 6 #[.slice A n c] w fun e w' => e = .returned (.bool true) ∧ Below w.heap.size w w' := by
  have hcap := h.cap
  have hmax := h.capMax
  unfold maxLen at hmax
  have H := Lib.hid h
  clear h
  by_cases hn : n ≤ 1048576
  case neg =>
    go_enter Try.func6, Try.ntmps6
    go_wp2
    go_ret
    exact ⟨rfl, Below.refl _ _⟩
  go_enter Try.func6, Try.ntmps6
  go_wp2_with fail
  refine (drawBookDo A n c xs _ H.out).mono ?_
  rintro e w1 ⟨v1, b, k, m, rfl, hmw, s1⟩
  have HMW := Lib.hid hmw
  clear hmw
  obtain ⟨B1, m1, d1, B2, m2, d2, B3, m3, d3, hv⟩ := s1.formB 0 rfl
  obtain ⟨os, hos⟩ : ∃ x, b.order.start = x := ⟨_, rfl⟩
  obtain ⟨st, hst⟩ : ∃ x, b.state = x := ⟨_, rfl⟩
  have HOS := Bx.mk hos
  have HST := Bx.mk hst
  rw [hos, hst] at hv
  subst hv
  have HBL : Bx (b.done.length = m3) := Bx.mk ((s1.rdB 0 rfl).done).1.len
  obtain ⟨g3, hg3⟩ : ∃ x, w1.heap.size = x := ⟨_, rfl⟩
  have HS1 : Hid (St w ((w1.alloc (.cells #[.int .i64 os, .slice B1 m1 d1, .slice B2 m2 d2, .slice B3 m3 d3, .int .i64 st] 28)).alloc (.cells #[.int .i64 k, .int .i64 m] 50)) [rBook (.agg #[.int .i64 os, .slice B1 m1 d1, .slice B2 m2 d2, .slice B3 m3 d3, .int .i64 st]) b, rBlk g3 28 #[.int .i64 os, .slice B1 m1 d1, .slice B2 m2 d2, .slice B3 m3 d3, .int .i64 st], rBlk (g3 + 1) 50 #[.int .i64 k, .int .i64 m]]) := Lib.hid (by
    have := (s1.alloc #[.int .i64 os, .slice B1 m1 d1, .slice B2 m2 d2, .slice B3 m3 d3, .int .i64 st] 28).alloc #[.int .i64 k, .int .i64 m] 50
    rw [show (w1.alloc (.cells #[.int .i64 os, .slice B1 m1 d1, .slice B2 m2 d2, .slice B3 m3 d3, .int .i64 st] 28)).heap.size = g3 + 1 by simp [hg3], hg3] at this
    exact this)
  clear s1 hos hst
  obtain ⟨x, hx⟩ : ∃ x, bookDo b ⟨k, m⟩ = x := ⟨_, rfl⟩
  obtain ⟨did, hdid⟩ : ∃ x, bookDid b ⟨k, m⟩ = x := ⟨_, rfl⟩
  have HX := Bx.mk hx
  have HDID := Bx.mk hdid
  obtain ⟨xs0, hxs⟩ : ∃ y, x.order.start = y := ⟨_, rfl⟩
  obtain ⟨xt, hxt⟩ : ∃ y, x.state = y := ⟨_, rfl⟩
  have HXS := Bx.mk hxs
  have HXT := Bx.mk hxt
  clear hx hdid hxs hxt
  go_wp2_with fail
  refine (bookDo_impl _ b k m _ (HS1.out.rdB 0 rfl) HMW.out).mono ?_
  rw [HX.out, HDID.out]
  rintro e w2 ⟨v2, rfl, s2⟩
  obtain ⟨X1, i1, j1, X2, i2, j2, X3, i3, j3, hv⟩ := s2.formB 0 rfl
  rw [HXS.out, HXT.out] at hv
  subst hv
  have HXL : Bx (x.done.length = i3) := Bx.mk ((s2.rdB 0 rfl).done).1.len
  obtain ⟨g5, hg5⟩ : ∃ y, w2.heap.size = y := ⟨_, rfl⟩
  have HS2 : Hid (St w (w2.alloc (.cells #[.int .i64 xs0, .slice X1 i1 j1, .slice X2 i2 j2, .slice X3 i3 j3, .int .i64 xt] 28)) [rBook (.agg #[.int .i64 os, .slice B1 m1 d1, .slice B2 m2 d2, .slice B3 m3 d3, .int .i64 st]) b, rBlk g3 28 #[.int .i64 os, .slice B1 m1 d1, .slice B2 m2 d2, .slice B3 m3 d3, .int .i64 st], rBlk (g3 + 1) 50 #[.int .i64 k, .int .i64 m], rBook (.agg #[.int .i64 xs0, .slice X1 i1 j1, .slice X2 i2 j2, .slice X3 i3 j3, .int .i64 xt]) x, rBlk g5 28 #[.int .i64 xs0, .slice X1 i1 j1, .slice X2 i2 j2, .slice X3 i3 j3, .int .i64 xt]]) := Lib.hid (by rw [← hg5]; exact (HS1.out.call s2).alloc _ _)
  clear s2 HS1
  try rw [hg3]
  try rw [hg5]
  have qa : ∀ j, (w2.alloc (.cells #[.int .i64 xs0, .slice X1 i1 j1, .slice X2 i2 j2, .slice X3 i3 j3, .int .i64 xt] 28)).cell? ⟨g3, j, none⟩ = _ := HS2.out.cells 1 rfl
  have qb : ∀ j, (w2.alloc (.cells #[.int .i64 xs0, .slice X1 i1 j1, .slice X2 i2 j2, .slice X3 i3 j3, .int .i64 xt] 28)).cell? ⟨g3 + 1, j, none⟩ = _ := HS2.out.cells 2 rfl
  have qc : ∀ j, (w2.alloc (.cells #[.int .i64 xs0, .slice X1 i1 j1, .slice X2 i2 j2, .slice X3 i3 j3, .int .i64 xt] 28)).cell? ⟨g5, j, none⟩ = _ := HS2.out.cells 4 rfl
  go_wp2_with fail
  refine (bookDo_spec _ b k m _ (HS2.out.rdB 0 rfl) HMW.out).mono ?_
  rw [HX.out, HDID.out]
  rintro e w3 ⟨v3, rfl, s3⟩
  obtain ⟨Y1, k1, l1, Y2, k2, l2, Y3, k3, l3, hv⟩ := s3.formB 0 rfl
  rw [HXS.out, HXT.out] at hv
  subst hv
  obtain ⟨g7, hg7⟩ : ∃ y, w3.heap.size = y := ⟨_, rfl⟩
  have HS3 : Hid (St w (w3.alloc (.cells #[.int .i64 xs0, .slice Y1 k1 l1, .slice Y2 k2 l2, .slice Y3 k3 l3, .int .i64 xt] 28)) [rBook (.agg #[.int .i64 os, .slice B1 m1 d1, .slice B2 m2 d2, .slice B3 m3 d3, .int .i64 st]) b, rBlk g3 28 #[.int .i64 os, .slice B1 m1 d1, .slice B2 m2 d2, .slice B3 m3 d3, .int .i64 st], rBlk (g3 + 1) 50 #[.int .i64 k, .int .i64 m], rBook (.agg #[.int .i64 xs0, .slice X1 i1 j1, .slice X2 i2 j2, .slice X3 i3 j3, .int .i64 xt]) x, rBlk g5 28 #[.int .i64 xs0, .slice X1 i1 j1, .slice X2 i2 j2, .slice X3 i3 j3, .int .i64 xt], rBook (.agg #[.int .i64 xs0, .slice Y1 k1 l1, .slice Y2 k2 l2, .slice Y3 k3 l3, .int .i64 xt]) x, rBlk g7 28 #[.int .i64 xs0, .slice Y1 k1 l1, .slice Y2 k2 l2, .slice Y3 k3 l3, .int .i64 xt]]) := Lib.hid (by rw [← hg7]; exact (HS2.out.call s3).alloc _ _)
  clear s3 HS2 qa qb qc
  try rw [hg7]
  have qa : ∀ j, (w3.alloc (.cells #[.int .i64 xs0, .slice Y1 k1 l1, .slice Y2 k2 l2, .slice Y3 k3 l3, .int .i64 xt] 28)).cell? ⟨g3, j, none⟩ = _ := HS3.out.cells 1 rfl
  have qb : ∀ j, (w3.alloc (.cells #[.int .i64 xs0, .slice Y1 k1 l1, .slice Y2 k2 l2, .slice Y3 k3 l3, .int .i64 xt] 28)).cell? ⟨g3 + 1, j, none⟩ = _ := HS3.out.cells 2 rfl
  have qc : ∀ j, (w3.alloc (.cells #[.int .i64 xs0, .slice Y1 k1 l1, .slice Y2 k2 l2, .slice Y3 k3 l3, .int .i64 xt] 28)).cell? ⟨g5, j, none⟩ = _ := HS3.out.cells 4 rfl
  have qd : ∀ j, (w3.alloc (.cells #[.int .i64 xs0, .slice Y1 k1 l1, .slice Y2 k2 l2, .slice Y3 k3 l3, .int .i64 xt] 28)).cell? ⟨g7, j, none⟩ = _ := HS3.out.cells 6 rfl
  go_wp2_with fail
  refine (sameBook_any _ x _ x _ (HS3.out.rdB 3 rfl) (HS3.out.rdB 5 rfl)).mono ?_
  rw [decide_eq_true rfl]
  rintro e w4 ⟨rfl, hb_w4⟩
  have HS4 := Lib.hid (HS3.out.quiet hb_w4)
  clear hb_w4 HS3 qa qb qc qd
  have qa : ∀ j, w4.cell? ⟨g3, j, none⟩ = _ := HS4.out.cells 1 rfl
  have qb : ∀ j, w4.cell? ⟨g3 + 1, j, none⟩ = _ := HS4.out.cells 2 rfl
  have qc : ∀ j, w4.cell? ⟨g5, j, none⟩ = _ := HS4.out.cells 4 rfl
  have qd : ∀ j, w4.cell? ⟨g7, j, none⟩ = _ := HS4.out.cells 6 rfl
  cases did with
  | false =>
    obtain ⟨bo, hbo⟩ : ∃ y, bookOk b = y := ⟨_, rfl⟩
    have HBO := Bx.mk hbo
    obtain ⟨bs, hbs⟩ : ∃ y, decide (x = b) = y := ⟨_, rfl⟩
    have HBS := Bx.mk hbs
    have HOR : Bx (bs = true ∨ bo = false) := Bx.mk (by
      cases bo with
      | false => exact .inr rfl
      | true =>
        left
        rw [← hbs]
        refine decide_eq_true ?_
        rw [← HX.out]
        cases hd : doneAfter b ⟨k, m⟩ with
        | none => exact (bookDo_none hbo hd).1
        | some d => have := HDID.out; rw [(bookDo_some hbo hd).2] at this; cases this)
    clear hbo hbs
    go_wp2_with fail
    refine (sameBook_any _ x _ b _ (HS4.out.rdB 3 rfl) (HS4.out.rdB 0 rfl)).mono ?_
    rw [HBS.out]
    rintro e w5 ⟨rfl, hb_w5⟩
    have HS5 := Lib.hid (HS4.out.quiet hb_w5)
    clear hb_w5 HS4 qa qb qc qd
    have qa : ∀ j, w5.cell? ⟨g3, j, none⟩ = _ := HS5.out.cells 1 rfl
    have qb : ∀ j, w5.cell? ⟨g3 + 1, j, none⟩ = _ := HS5.out.cells 2 rfl
    have qc : ∀ j, w5.cell? ⟨g5, j, none⟩ = _ := HS5.out.cells 4 rfl
    have qd : ∀ j, w5.cell? ⟨g7, j, none⟩ = _ := HS5.out.cells 6 rfl
    cases bs with
    | true =>
      go_wp2_with fail
      refine (alive_any _).mono ?_
      rintro e wa ⟨rfl, hba⟩
      have HSA := Lib.hid (HS5.out.quiet hba).below
      clear hba
      go_wp2
      go_ret
      exact ⟨rfl, HSA.out⟩
    | false =>
      have hbo0 : bo = false := by rcases HOR.out with h | h; cases h; exact h
      subst hbo0
      go_wp2_with fail
      refine (bookValid_impl _ b _ (HS5.out.rdB 0 rfl)).mono ?_
      rw [HBO.out]
      rintro e w6 ⟨rfl, hb_w6⟩
      have HS6 := Lib.hid (HS5.out.quiet hb_w6)
      clear hb_w6 HS5 qa qb qc qd
      have qa : ∀ j, w6.cell? ⟨g3, j, none⟩ = _ := HS6.out.cells 1 rfl
      have qb : ∀ j, w6.cell? ⟨g3 + 1, j, none⟩ = _ := HS6.out.cells 2 rfl
      have qc : ∀ j, w6.cell? ⟨g5, j, none⟩ = _ := HS6.out.cells 4 rfl
      have qd : ∀ j, w6.cell? ⟨g7, j, none⟩ = _ := HS6.out.cells 6 rfl
      go_wp2_with fail
      refine (alive_any _).mono ?_
      rintro e wa ⟨rfl, hba⟩
      have HSA := Lib.hid (HS6.out.quiet hba).below
      clear hba
      go_wp2
      go_ret
      exact ⟨rfl, HSA.out⟩
  | true =>
    obtain ⟨f1, f2, f3, f4, f5, f6, f7, f8, hk⟩ := did_facts HDID.out
    rw [HX.out] at f2 f3 f4 f5 f6 f7 f8
    have HXOK := Bx.mk f2
    have HOE := Bx.mk f3
    have HNE := Bx.mk f4
    have HF0' := Bx.mk f5
    have HF3 := Bx.mk f6
    have HF2 := Bx.mk f7
    have HF1 := Bx.mk f8
    clear f1 f2 f3 f4 f5 f6 f7 f8
    obtain ⟨z, hz⟩ : ∃ z, bookDo x ⟨1, 1⟩ = z := ⟨_, rfl⟩
    obtain ⟨can, hcan⟩ : ∃ z, bookDid x ⟨1, 1⟩ = z := ⟨_, rfl⟩
    have HZ := Bx.mk hz
    have HCAN := Bx.mk hcan
    have HF0 : Bx (k = 0 → can = true ∧ z = b) := Bx.mk fun h0 => by have := HF0'.out h0; rw [hz, hcan] at this; exact this
    obtain ⟨zs, hzs⟩ : ∃ y, z.order.start = y := ⟨_, rfl⟩
    obtain ⟨zt, hzt⟩ : ∃ y, z.state = y := ⟨_, rfl⟩
    have HZS := Bx.mk hzs
    have HZT := Bx.mk hzt
    clear hz hcan hzs hzt HF0'
    go_wp2_with fail
    refine (bookDo_impl _ x 1 1 _ (HS4.out.rdB 3 rfl) (by decide)).mono ?_
    rw [HZ.out, HCAN.out]
    rintro e w5 ⟨v5, rfl, s5⟩
    obtain ⟨Z1, o1, p1, Z2, o2, p2, Z3, o3, p3, hv⟩ := s5.formB 0 rfl
    rw [HZS.out, HZT.out] at hv
    subst hv
    obtain ⟨g9, hg9⟩ : ∃ y, w5.heap.size = y := ⟨_, rfl⟩
    obtain ⟨w6, hw6⟩ : ∃ y, w5.alloc (.cells #[.int .i64 zs, .slice Z1 o1 p1, .slice Z2 o2 p2, .slice Z3 o3 p3, .int .i64 zt] 28) = y := ⟨_, rfl⟩
    have HS6 : Hid (St w w6 [rBook (.agg #[.int .i64 os, .slice B1 m1 d1, .slice B2 m2 d2, .slice B3 m3 d3, .int .i64 st]) b, rBlk g3 28 #[.int .i64 os, .slice B1 m1 d1, .slice B2 m2 d2, .slice B3 m3 d3, .int .i64 st], rBlk (g3 + 1) 50 #[.int .i64 k, .int .i64 m], rBook (.agg #[.int .i64 xs0, .slice X1 i1 j1, .slice X2 i2 j2, .slice X3 i3 j3, .int .i64 xt]) x, rBlk g5 28 #[.int .i64 xs0, .slice X1 i1 j1, .slice X2 i2 j2, .slice X3 i3 j3, .int .i64 xt], rBook (.agg #[.int .i64 xs0, .slice Y1 k1 l1, .slice Y2 k2 l2, .slice Y3 k3 l3, .int .i64 xt]) x, rBlk g7 28 #[.int .i64 xs0, .slice Y1 k1 l1, .slice Y2 k2 l2, .slice Y3 k3 l3, .int .i64 xt], rBook (.agg #[.int .i64 zs, .slice Z1 o1 p1, .slice Z2 o2 p2, .slice Z3 o3 p3, .int .i64 zt]) z, rBlk g9 28 #[.int .i64 zs, .slice Z1 o1 p1, .slice Z2 o2 p2, .slice Z3 o3 p3, .int .i64 zt]]) := Lib.hid (by rw [← hg9, ← hw6]; exact (HS4.out.call s5).alloc _ _)
    clear s5 HS4 qa qb qc qd
    go_upto_region 11 with (fail)
    try rw [hg9]
    try rw [hw6]
    clear hw6 hg9 hg3 hg5 hg7
    rcases hk with hk | hk | hk | hk
    · subst hk
      have qa : ∀ j, w6.cell? ⟨g3, j, none⟩ = _ := HS6.out.cells 1 rfl
      have qb : ∀ j, w6.cell? ⟨g3 + 1, j, none⟩ = _ := HS6.out.cells 2 rfl
      have qc : ∀ j, w6.cell? ⟨g5, j, none⟩ = _ := HS6.out.cells 4 rfl
      have qd : ∀ j, w6.cell? ⟨g7, j, none⟩ = _ := HS6.out.cells 6 rfl
      have qe : ∀ j, w6.cell? ⟨g9, j, none⟩ = _ := HS6.out.cells 8 rfl
      obtain ⟨f1, f2⟩ := HF0.out rfl
      subst f1
      have F2 := Bx.mk f2
      clear f2
      go_wp2_with fail
      refine (sameBook_any _ z _ b _ (HS6.out.rdB 7 rfl) (HS6.out.rdB 0 rfl)).mono ?_
      rw [decide_eq_true F2.out]
      rintro e w7 ⟨rfl, hb_w7⟩
      have HS7 := Lib.hid (HS6.out.quiet hb_w7)
      clear hb_w7 HS6 qa qb qc qd qe
      have qa : ∀ j, w7.cell? ⟨g3, j, none⟩ = _ := HS7.out.cells 1 rfl
      have qb : ∀ j, w7.cell? ⟨g3 + 1, j, none⟩ = _ := HS7.out.cells 2 rfl
      have qc : ∀ j, w7.cell? ⟨g5, j, none⟩ = _ := HS7.out.cells 4 rfl
      have qd : ∀ j, w7.cell? ⟨g7, j, none⟩ = _ := HS7.out.cells 6 rfl
      have qe : ∀ j, w7.cell? ⟨g9, j, none⟩ = _ := HS7.out.cells 8 rfl
      go_wp2_with fail
      refine (bookValid_impl _ x _ (HS7.out.rdB 3 rfl)).mono ?_
      rw [HXOK.out]
      rintro e w8 ⟨rfl, hb_w8⟩
      have HS8 := Lib.hid (HS7.out.quiet hb_w8)
      clear hb_w8 HS7 qa qb qc qd qe
      have qa : ∀ j, w8.cell? ⟨g3, j, none⟩ = _ := HS8.out.cells 1 rfl
      have qb : ∀ j, w8.cell? ⟨g3 + 1, j, none⟩ = _ := HS8.out.cells 2 rfl
      have qc : ∀ j, w8.cell? ⟨g5, j, none⟩ = _ := HS8.out.cells 4 rfl
      have qd : ∀ j, w8.cell? ⟨g7, j, none⟩ = _ := HS8.out.cells 6 rfl
      have qe : ∀ j, w8.cell? ⟨g9, j, none⟩ = _ := HS8.out.cells 8 rfl
      go_wp2_with fail
      refine (sameBook_any _ x _ b _ (HS8.out.rdB 3 rfl) (HS8.out.rdB 0 rfl)).mono ?_
      rw [decide_eq_false HNE.out]
      rintro e w9 ⟨rfl, hb_w9⟩
      have HS9 := Lib.hid (HS8.out.quiet hb_w9)
      clear hb_w9 HS8 qa qb qc qd qe
      have qa : ∀ j, w9.cell? ⟨g3, j, none⟩ = _ := HS9.out.cells 1 rfl
      have qb : ∀ j, w9.cell? ⟨g3 + 1, j, none⟩ = _ := HS9.out.cells 2 rfl
      have qc : ∀ j, w9.cell? ⟨g5, j, none⟩ = _ := HS9.out.cells 4 rfl
      have qd : ∀ j, w9.cell? ⟨g7, j, none⟩ = _ := HS9.out.cells 6 rfl
      have qe : ∀ j, w9.cell? ⟨g9, j, none⟩ = _ := HS9.out.cells 8 rfl
      go_wp2_with fail
      refine (sameTask_any _ x.order _ b.order _ ((HS9.out.rdB 3 rfl).order) ((HS9.out.rdB 0 rfl).order)).mono ?_
      rw [decide_eq_true HOE.out]
      rintro e wt ⟨rfl, hbt⟩
      have HST9 := Lib.hid (HS9.out.quiet hbt).below
      clear hbt
      go_wp2
      go_ret
      exact ⟨rfl, HST9.out⟩
    · subst hk
      have qa : ∀ j, w6.cell? ⟨g3, j, none⟩ = _ := HS6.out.cells 1 rfl
      have qb : ∀ j, w6.cell? ⟨g3 + 1, j, none⟩ = _ := HS6.out.cells 2 rfl
      have qc : ∀ j, w6.cell? ⟨g5, j, none⟩ = _ := HS6.out.cells 4 rfl
      have qd : ∀ j, w6.cell? ⟨g7, j, none⟩ = _ := HS6.out.cells 6 rfl
      have qe : ∀ j, w6.cell? ⟨g9, j, none⟩ = _ := HS6.out.cells 8 rfl
      obtain ⟨f1, f2, f3⟩ := HF1.out rfl
      rw [HXL.out, HBL.out] at f3
      rw [HBL.out] at f2
      have hi40 := (bookOk_parts HXOK.out).2.1
      rw [HXL.out] at hi40
      have f4 : IntKind.i64.wrap ((m3 : Int) - m) = (i3 : Int) := by rw [IntKind.wrap_i64]; omega
      have f5 : (m3 : Int) - m = (i3 : Int) := by omega
      clear f1 f2 f3
      go_wp2_with fail
      refine (bookValid_impl _ x _ (HS6.out.rdB 3 rfl)).mono ?_
      rw [HXOK.out]
      rintro e w8 ⟨rfl, hb_w8⟩
      have HS8 := Lib.hid (HS6.out.quiet hb_w8)
      clear hb_w8 HS6 qa qb qc qd qe
      have qa : ∀ j, w8.cell? ⟨g3, j, none⟩ = _ := HS8.out.cells 1 rfl
      have qb : ∀ j, w8.cell? ⟨g3 + 1, j, none⟩ = _ := HS8.out.cells 2 rfl
      have qc : ∀ j, w8.cell? ⟨g5, j, none⟩ = _ := HS8.out.cells 4 rfl
      have qd : ∀ j, w8.cell? ⟨g7, j, none⟩ = _ := HS8.out.cells 6 rfl
      have qe : ∀ j, w8.cell? ⟨g9, j, none⟩ = _ := HS8.out.cells 8 rfl
      go_wp2_with fail
      refine (sameBook_any _ x _ b _ (HS8.out.rdB 3 rfl) (HS8.out.rdB 0 rfl)).mono ?_
      rw [decide_eq_false HNE.out]
      rintro e w9 ⟨rfl, hb_w9⟩
      have HS9 := Lib.hid (HS8.out.quiet hb_w9)
      clear hb_w9 HS8 qa qb qc qd qe
      have qa : ∀ j, w9.cell? ⟨g3, j, none⟩ = _ := HS9.out.cells 1 rfl
      have qb : ∀ j, w9.cell? ⟨g3 + 1, j, none⟩ = _ := HS9.out.cells 2 rfl
      have qc : ∀ j, w9.cell? ⟨g5, j, none⟩ = _ := HS9.out.cells 4 rfl
      have qd : ∀ j, w9.cell? ⟨g7, j, none⟩ = _ := HS9.out.cells 6 rfl
      have qe : ∀ j, w9.cell? ⟨g9, j, none⟩ = _ := HS9.out.cells 8 rfl
      go_wp2_with fail
      refine (sameTask_any _ x.order _ b.order _ ((HS9.out.rdB 3 rfl).order) ((HS9.out.rdB 0 rfl).order)).mono ?_
      rw [decide_eq_true HOE.out]
      rintro e wt ⟨rfl, hbt⟩
      have HST9 := Lib.hid (HS9.out.quiet hbt).below
      clear hbt
      go_wp2
      go_ret
      exact ⟨rfl, HST9.out⟩
    · subst hk
      have qa : ∀ j, w6.cell? ⟨g3, j, none⟩ = _ := HS6.out.cells 1 rfl
      have qb : ∀ j, w6.cell? ⟨g3 + 1, j, none⟩ = _ := HS6.out.cells 2 rfl
      have qc : ∀ j, w6.cell? ⟨g5, j, none⟩ = _ := HS6.out.cells 4 rfl
      have qd : ∀ j, w6.cell? ⟨g7, j, none⟩ = _ := HS6.out.cells 6 rfl
      have qe : ∀ j, w6.cell? ⟨g9, j, none⟩ = _ := HS6.out.cells 8 rfl
      obtain ⟨f1, f2⟩ := HF2.out rfl
      rw [HXT.out, HST.out] at f1
      subst f1
      have f3 : ¬ (m3 : Int) ≤ (i3 : Int) := by rw [HXL.out, HBL.out] at f2; omega
      have f3' : (i3 : Int) < (m3 : Int) := by omega
      clear f2
      go_wp2_with fail
      refine (bookValid_impl _ x _ (HS6.out.rdB 3 rfl)).mono ?_
      rw [HXOK.out]
      rintro e w8 ⟨rfl, hb_w8⟩
      have HS8 := Lib.hid (HS6.out.quiet hb_w8)
      clear hb_w8 HS6 qa qb qc qd qe
      have qa : ∀ j, w8.cell? ⟨g3, j, none⟩ = _ := HS8.out.cells 1 rfl
      have qb : ∀ j, w8.cell? ⟨g3 + 1, j, none⟩ = _ := HS8.out.cells 2 rfl
      have qc : ∀ j, w8.cell? ⟨g5, j, none⟩ = _ := HS8.out.cells 4 rfl
      have qd : ∀ j, w8.cell? ⟨g7, j, none⟩ = _ := HS8.out.cells 6 rfl
      have qe : ∀ j, w8.cell? ⟨g9, j, none⟩ = _ := HS8.out.cells 8 rfl
      go_wp2_with fail
      refine (sameBook_any _ x _ b _ (HS8.out.rdB 3 rfl) (HS8.out.rdB 0 rfl)).mono ?_
      rw [decide_eq_false HNE.out]
      rintro e w9 ⟨rfl, hb_w9⟩
      have HS9 := Lib.hid (HS8.out.quiet hb_w9)
      clear hb_w9 HS8 qa qb qc qd qe
      have qa : ∀ j, w9.cell? ⟨g3, j, none⟩ = _ := HS9.out.cells 1 rfl
      have qb : ∀ j, w9.cell? ⟨g3 + 1, j, none⟩ = _ := HS9.out.cells 2 rfl
      have qc : ∀ j, w9.cell? ⟨g5, j, none⟩ = _ := HS9.out.cells 4 rfl
      have qd : ∀ j, w9.cell? ⟨g7, j, none⟩ = _ := HS9.out.cells 6 rfl
      have qe : ∀ j, w9.cell? ⟨g9, j, none⟩ = _ := HS9.out.cells 8 rfl
      go_wp2_with fail
      refine (sameTask_any _ x.order _ b.order _ ((HS9.out.rdB 3 rfl).order) ((HS9.out.rdB 0 rfl).order)).mono ?_
      rw [decide_eq_true HOE.out]
      rintro e wt ⟨rfl, hbt⟩
      have HST9 := Lib.hid (HS9.out.quiet hbt).below
      clear hbt
      go_wp2
      go_ret
      exact ⟨rfl, HST9.out⟩
    · subst hk
      have qa : ∀ j, w6.cell? ⟨g3, j, none⟩ = _ := HS6.out.cells 1 rfl
      have qb : ∀ j, w6.cell? ⟨g3 + 1, j, none⟩ = _ := HS6.out.cells 2 rfl
      have qc : ∀ j, w6.cell? ⟨g5, j, none⟩ = _ := HS6.out.cells 4 rfl
      have qd : ∀ j, w6.cell? ⟨g7, j, none⟩ = _ := HS6.out.cells 6 rfl
      have qe : ∀ j, w6.cell? ⟨g9, j, none⟩ = _ := HS6.out.cells 8 rfl
      have F3 := Bx.mk (HF3.out rfl)
      go_wp2_with fail
      refine (bookEnded_impl _ x _ (HS6.out.rdB 3 rfl)).mono ?_
      rw [F3.out]
      rintro e w7 ⟨rfl, hb_w7⟩
      have HS7 := Lib.hid (HS6.out.quiet hb_w7)
      clear hb_w7 HS6 qa qb qc qd qe
      have qa : ∀ j, w7.cell? ⟨g3, j, none⟩ = _ := HS7.out.cells 1 rfl
      have qb : ∀ j, w7.cell? ⟨g3 + 1, j, none⟩ = _ := HS7.out.cells 2 rfl
      have qc : ∀ j, w7.cell? ⟨g5, j, none⟩ = _ := HS7.out.cells 4 rfl
      have qd : ∀ j, w7.cell? ⟨g7, j, none⟩ = _ := HS7.out.cells 6 rfl
      have qe : ∀ j, w7.cell? ⟨g9, j, none⟩ = _ := HS7.out.cells 8 rfl
      go_wp2_with fail
      refine (bookValid_impl _ x _ (HS7.out.rdB 3 rfl)).mono ?_
      rw [HXOK.out]
      rintro e w8 ⟨rfl, hb_w8⟩
      have HS8 := Lib.hid (HS7.out.quiet hb_w8)
      clear hb_w8 HS7 qa qb qc qd qe
      have qa : ∀ j, w8.cell? ⟨g3, j, none⟩ = _ := HS8.out.cells 1 rfl
      have qb : ∀ j, w8.cell? ⟨g3 + 1, j, none⟩ = _ := HS8.out.cells 2 rfl
      have qc : ∀ j, w8.cell? ⟨g5, j, none⟩ = _ := HS8.out.cells 4 rfl
      have qd : ∀ j, w8.cell? ⟨g7, j, none⟩ = _ := HS8.out.cells 6 rfl
      have qe : ∀ j, w8.cell? ⟨g9, j, none⟩ = _ := HS8.out.cells 8 rfl
      go_wp2_with fail
      refine (sameBook_any _ x _ b _ (HS8.out.rdB 3 rfl) (HS8.out.rdB 0 rfl)).mono ?_
      rw [decide_eq_false HNE.out]
      rintro e w9 ⟨rfl, hb_w9⟩
      have HS9 := Lib.hid (HS8.out.quiet hb_w9)
      clear hb_w9 HS8 qa qb qc qd qe
      have qa : ∀ j, w9.cell? ⟨g3, j, none⟩ = _ := HS9.out.cells 1 rfl
      have qb : ∀ j, w9.cell? ⟨g3 + 1, j, none⟩ = _ := HS9.out.cells 2 rfl
      have qc : ∀ j, w9.cell? ⟨g5, j, none⟩ = _ := HS9.out.cells 4 rfl
      have qd : ∀ j, w9.cell? ⟨g7, j, none⟩ = _ := HS9.out.cells 6 rfl
      have qe : ∀ j, w9.cell? ⟨g9, j, none⟩ = _ := HS9.out.cells 8 rfl
      go_wp2_with fail
      refine (sameTask_any _ x.order _ b.order _ ((HS9.out.rdB 3 rfl).order) ((HS9.out.rdB 0 rfl).order)).mono ?_
      rw [decide_eq_true HOE.out]
      rintro e wt ⟨rfl, hbt⟩
      have HST9 := Lib.hid (HS9.out.quiet hbt).below
      clear hbt
      go_wp2
      go_ret
      exact ⟨rfl, HST9.out⟩
end Go.Proofs.Ytkebgldeahklmaa
