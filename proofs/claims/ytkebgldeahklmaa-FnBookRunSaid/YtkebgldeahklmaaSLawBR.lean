/- The walk of the law FnBookRun: true for every drawn code. Printed by gen_lawbr.py. -/
import Derived.Test.YtkebgldeahklmaaSActCut
import Derived.Test.YtkebgldeahklmaaSReach
import Derived.Test.YtkebgldeahklmaaSDraws
import Derived.Test.YtkebgldeahklmaaSGraphV
import Derived.Test.YtkebgldeahklmaaSIntS
namespace Go.Proofs.Ytkebgldeahklmaa
set_option linter.unusedVariables false
set_option linter.unusedSimpArgs false
open Go.ChangeShapes Go.WideShapes Go.ChangeAt Go.RowKit

set_option maxRecDepth 100000 in
set_option maxHeartbeats 2000000 in
theorem FnBookRun_walk (A : Option Addr) (n c : Nat) (xs : List Int) (w : World) (h : RdI .u8 w w.heap.size A n c xs) :
    Calls Try.prog 9 #[.slice A n c] w fun e w' => e = .returned (.bool true) ∧ Below w.heap.size w w' := by
  have hcap := h.cap
  have hmax := h.capMax
  unfold maxLen at hmax
  have H := Lib.hid h
  clear h
  by_cases hn : n ≤ 1048576
  case neg =>
    go_enter Try.func9, Try.ntmps9
    go_wp2
    go_ret
    exact ⟨rfl, Below.refl _ _⟩
  go_enter Try.func9, Try.ntmps9
  go_wp2_with fail
  refine (drawBookRun A n c xs _ H.out).mono ?_
  rintro e w1 ⟨v1, b, v4, aa, rfl, hal, haw, s1⟩
  have HW := Lib.hid haw
  clear haw
  obtain ⟨B1, m1, d1, B2, m2, d2, B3, m3, d3, hv⟩ := s1.formB 0 rfl
  obtain ⟨A4, c4, hv4, -⟩ := s1.rdA 1 rfl
  obtain ⟨n4, hn4⟩ : ∃ x, aa.length = x := ⟨_, rfl⟩
  have HN4 := Bx.mk hn4
  obtain ⟨os, hos⟩ : ∃ x, b.order.start = x := ⟨_, rfl⟩
  obtain ⟨st, hst⟩ : ∃ x, b.state = x := ⟨_, rfl⟩
  have HOS := Bx.mk hos
  have HST := Bx.mk hst
  rw [hos, hst] at hv
  rw [hn4] at hv4 hal
  subst hv hv4
  have h4cap := (s1.rdA' 1 rfl).2.cap
  have h4max := (s1.rdA' 1 rfl).2.capMax
  unfold maxLen at h4max
  obtain ⟨g3, hg3⟩ : ∃ x, w1.heap.size = x := ⟨_, rfl⟩
  have HS1 : Hid (St w (w1.alloc (.cells #[.int .i64 os, .slice B1 m1 d1, .slice B2 m2 d2, .slice B3 m3 d3, .int .i64 st] 28)) [rBook (.agg #[.int .i64 os, .slice B1 m1 d1, .slice B2 m2 d2, .slice B3 m3 d3, .int .i64 st]) b, rActs (.slice A4 n4 c4) aa, rBlk g3 28 #[.int .i64 os, .slice B1 m1 d1, .slice B2 m2 d2, .slice B3 m3 d3, .int .i64 st]]) := Lib.hid (by rw [← hg3]; exact s1.alloc _ _)
  clear s1 hos hst hn4
  obtain ⟨x, hx⟩ : ∃ x, (bookRun b aa).1 = x := ⟨_, rfl⟩
  obtain ⟨xn, hxn⟩ : ∃ x, (bookRun b aa).2 = x := ⟨_, rfl⟩
  have HX := Bx.mk hx
  have HXN := Bx.mk hxn
  obtain ⟨xs0, hxs⟩ : ∃ y, x.order.start = y := ⟨_, rfl⟩
  obtain ⟨xt, hxt⟩ : ∃ y, x.state = y := ⟨_, rfl⟩
  have HXS := Bx.mk hxs
  have HXT := Bx.mk hxt
  clear hx hxn hxs hxt
  try rw [hg3]
  have q2 : ∀ j, (w1.alloc (.cells #[.int .i64 os, .slice B1 m1 d1, .slice B2 m2 d2, .slice B3 m3 d3, .int .i64 st] 28)).cell? ⟨g3, j, none⟩ = _ := HS1.out.cells 2 rfl
  go_wp2_with fail
  refine (bookRun_impl _ b _ _ _ aa _ (HS1.out.rdB 0 rfl) (HS1.out.rdA' 1 rfl) HW.out).mono ?_
  rw [HX.out, HXN.out]
  rintro e w2 ⟨v2, rfl, s_w2⟩
  obtain ⟨X1, i1, j1, X2, i2, j2, X3, i3, j3, hv⟩ := s_w2.formB 0 rfl
  rw [HXS.out, HXT.out] at hv
  subst hv
  obtain ⟨g5, hg5⟩ : ∃ y, w2.heap.size = y := ⟨_, rfl⟩
  have HS2 : Hid (St w (w2.alloc (.cells #[.int .i64 xs0, .slice X1 i1 j1, .slice X2 i2 j2, .slice X3 i3 j3, .int .i64 xt] 28)) [rBook (.agg #[.int .i64 os, .slice B1 m1 d1, .slice B2 m2 d2, .slice B3 m3 d3, .int .i64 st]) b, rActs (.slice A4 n4 c4) aa, rBlk g3 28 #[.int .i64 os, .slice B1 m1 d1, .slice B2 m2 d2, .slice B3 m3 d3, .int .i64 st], rBook (.agg #[.int .i64 xs0, .slice X1 i1 j1, .slice X2 i2 j2, .slice X3 i3 j3, .int .i64 xt]) x, rBlk g5 28 #[.int .i64 xs0, .slice X1 i1 j1, .slice X2 i2 j2, .slice X3 i3 j3, .int .i64 xt]]) := Lib.hid (by rw [← hg5]; exact (HS1.out.call s_w2).alloc _ _)
  clear s_w2 HS1
  try rw [hg5]
  clear q2
  have q2 : ∀ j, (w2.alloc (.cells #[.int .i64 xs0, .slice X1 i1 j1, .slice X2 i2 j2, .slice X3 i3 j3, .int .i64 xt] 28)).cell? ⟨g3, j, none⟩ = _ := HS2.out.cells 2 rfl
  have q4 : ∀ j, (w2.alloc (.cells #[.int .i64 xs0, .slice X1 i1 j1, .slice X2 i2 j2, .slice X3 i3 j3, .int .i64 xt] 28)).cell? ⟨g5, j, none⟩ = _ := HS2.out.cells 4 rfl
  go_wp2_with fail
  refine (bookRun_spec _ b _ _ _ aa _ (HS2.out.rdB 0 rfl) (HS2.out.rdA' 1 rfl) HW.out).mono ?_
  rw [HX.out, HXN.out]
  rintro e w3 ⟨v3, rfl, s_w3⟩
  obtain ⟨Y1, k1, l1, Y2, k2, l2, Y3, k3, l3, hv⟩ := s_w3.formB 0 rfl
  rw [HXS.out, HXT.out] at hv
  subst hv
  obtain ⟨g7, hg7⟩ : ∃ y, w3.heap.size = y := ⟨_, rfl⟩
  have HS3 : Hid (St w (w3.alloc (.cells #[.int .i64 xs0, .slice Y1 k1 l1, .slice Y2 k2 l2, .slice Y3 k3 l3, .int .i64 xt] 28)) [rBook (.agg #[.int .i64 os, .slice B1 m1 d1, .slice B2 m2 d2, .slice B3 m3 d3, .int .i64 st]) b, rActs (.slice A4 n4 c4) aa, rBlk g3 28 #[.int .i64 os, .slice B1 m1 d1, .slice B2 m2 d2, .slice B3 m3 d3, .int .i64 st], rBook (.agg #[.int .i64 xs0, .slice X1 i1 j1, .slice X2 i2 j2, .slice X3 i3 j3, .int .i64 xt]) x, rBlk g5 28 #[.int .i64 xs0, .slice X1 i1 j1, .slice X2 i2 j2, .slice X3 i3 j3, .int .i64 xt], rBook (.agg #[.int .i64 xs0, .slice Y1 k1 l1, .slice Y2 k2 l2, .slice Y3 k3 l3, .int .i64 xt]) x, rBlk g7 28 #[.int .i64 xs0, .slice Y1 k1 l1, .slice Y2 k2 l2, .slice Y3 k3 l3, .int .i64 xt]]) := Lib.hid (by rw [← hg7]; exact (HS2.out.call s_w3).alloc _ _)
  clear s_w3 HS2
  try rw [hg7]
  clear q2 q4
  have q2 : ∀ j, (w3.alloc (.cells #[.int .i64 xs0, .slice Y1 k1 l1, .slice Y2 k2 l2, .slice Y3 k3 l3, .int .i64 xt] 28)).cell? ⟨g3, j, none⟩ = _ := HS3.out.cells 2 rfl
  have q4 : ∀ j, (w3.alloc (.cells #[.int .i64 xs0, .slice Y1 k1 l1, .slice Y2 k2 l2, .slice Y3 k3 l3, .int .i64 xt] 28)).cell? ⟨g5, j, none⟩ = _ := HS3.out.cells 4 rfl
  have q6 : ∀ j, (w3.alloc (.cells #[.int .i64 xs0, .slice Y1 k1 l1, .slice Y2 k2 l2, .slice Y3 k3 l3, .int .i64 xt] 28)).cell? ⟨g7, j, none⟩ = _ := HS3.out.cells 6 rfl
  go_wp2_with fail
  refine (sameBook_any _ x _ x _ (HS3.out.rdB 3 rfl) (HS3.out.rdB 5 rfl)).mono ?_
  rw [decide_eq_true rfl]
  rintro e w4 ⟨rfl, hb_w4⟩
  have HS4 := Lib.hid (HS3.out.quiet hb_w4)
  clear hb_w4 HS3
  clear q2 q4 q6
  have q2 : ∀ j, w4.cell? ⟨g3, j, none⟩ = _ := HS4.out.cells 2 rfl
  have q4 : ∀ j, w4.cell? ⟨g5, j, none⟩ = _ := HS4.out.cells 4 rfl
  have q6 : ∀ j, w4.cell? ⟨g7, j, none⟩ = _ := HS4.out.cells 6 rfl
  obtain ⟨bo, hbo⟩ : ∃ y, bookOk b = y := ⟨_, rfl⟩
  have HBO := Bx.mk hbo
  clear hbo
  go_wp2_with fail
  refine (bookValid_spec _ b _ (HS4.out.rdB 0 rfl)).mono ?_
  rw [HBO.out]
  rintro e w5 ⟨rfl, hb_w5⟩
  have HS5 := Lib.hid (HS4.out.quiet hb_w5)
  clear hb_w5 HS4
  clear q2 q4 q6
  have q2 : ∀ j, w5.cell? ⟨g3, j, none⟩ = _ := HS5.out.cells 2 rfl
  have q4 : ∀ j, w5.cell? ⟨g5, j, none⟩ = _ := HS5.out.cells 4 rfl
  have q6 : ∀ j, w5.cell? ⟨g7, j, none⟩ = _ := HS5.out.cells 6 rfl
  by_cases hcase : bo = false ∨ ¬ n4 ≤ 40
  · have hz := bookRun_no (b := b) (aa := aa) (by rcases hcase with h | h; exact .inl (HBO.out.trans h); exact .inr (by rw [HN4.out]; exact h))
    have hx0 : x = zeroB := by rw [← HX.out, hz]
    have hn0 : xn = 0 := by rw [← HXN.out, hz]
    have HX0 := Bx.mk hx0
    subst hn0
    clear hz hx0
    cases bo with
    | false =>
      go_wp2_with fail
      refine (noBook_any _ x _ (HS5.out.rdB 3 rfl)).mono ?_
      rw [decide_eq_true (show x = ⟨⟨0, [], []⟩, [], 0⟩ from HX0.out)]
      rintro e w6 ⟨rfl, hb_w6⟩
      have HS6 := Lib.hid (HS5.out.quiet hb_w6)
      clear hb_w6 HS5
      go_wp2_with fail
      refine (alive_any _).mono ?_
      rintro e wa ⟨rfl, hba⟩
      have HSA := Lib.hid (HS6.out.quiet hba).below
      clear hba
      go_wp2
      go_ret
      exact ⟨rfl, HSA.out⟩
    | true =>
      have hfar : (40 : Int) < (n4 : Int) := by rcases hcase with h | h; cases h; omega
      clear hcase
      go_wp2_with fail
      refine (noBook_any _ x _ (HS5.out.rdB 3 rfl)).mono ?_
      rw [decide_eq_true (show x = ⟨⟨0, [], []⟩, [], 0⟩ from HX0.out)]
      rintro e w6 ⟨rfl, hb_w6⟩
      have HS6 := Lib.hid (HS5.out.quiet hb_w6)
      clear hb_w6 HS5
      go_wp2_with fail
      refine (alive_any _).mono ?_
      rintro e wa ⟨rfl, hba⟩
      have HSA := Lib.hid (HS6.out.quiet hba).below
      clear hba
      go_wp2
      go_ret
      exact ⟨rfl, HSA.out⟩
  · have hbo : bo = true := by cases bo <;> simp_all
    subst hbo
    have hn40 : n4 ≤ 40 := by omega
    have hnear : ¬ (40 : Int) < (n4 : Int) := by omega
    clear hcase
    obtain ⟨hf, hhf⟩ : ∃ y, n4 / 2 = y := ⟨_, rfl⟩
    have hhf1 : hf ≤ n4 := by omega
    have hhf2 : (n4 : Int).tdiv 2 = (hf : Int) := by rw [Int.tdiv_eq_ediv_of_nonneg (by omega)]; omega
    have hhf3 : (n4 : Int) / 2 = (hf : Int) := by omega
    obtain ⟨k1', k2', k3', k4', k5', k6'⟩ := run_halves HBO.out (by rw [HN4.out]; exact hn40) hf (by rw [HN4.out]; exact hhf1)
    obtain ⟨rn, xk, t1, t2, t3, t4, t5⟩ := reach_in k1'
    rw [k2'] at t1
    rw [HX.out] at k1' k2' k5' t2
    rw [HXN.out] at k3' k6'
    rw [HXT.out] at t2
    obtain ⟨ab, hab⟩ : ∃ y, (bookRun b (aa.take hf)).1 = y := ⟨_, rfl⟩
    obtain ⟨pn, hpn⟩ : ∃ y, (bookRun b (aa.take hf)).2 = y := ⟨_, rfl⟩
    rw [hab] at k4' k5' k6'
    rw [hpn] at k6'
    obtain ⟨qn, hqn⟩ : ∃ y, (bookRun ab (aa.drop hf)).2 = y := ⟨_, rfl⟩
    rw [hqn] at k6'
    have HXOK := Bx.mk k1'
    have HOE := Bx.mk k2'
    have HAB := Bx.mk hab
    have HPN := Bx.mk hpn
    have HQN := Bx.mk hqn
    have HCX := Bx.mk k5'
    have HRN := Bx.mk t1
    have HPQ : Bx ((pn : Int) + (qn : Int) = (xn : Int)) := Bx.mk (by omega)
    have HPQ2 : Bx (IntKind.i64.wrap (xn : Int) = (xn : Int)) := Bx.mk (by rw [IntKind.wrap_i64] <;> omega)
    subst t2
    have HK1 : Bx (¬ (xk : Int) < 0) := Bx.mk (by omega)
    have HK2 : Bx (xk < 64) := Bx.mk (by omega)
    have HK3 : Bx (((rn : Int) / 2 ^ xk).tmod 2 = 1) := Bx.mk (by rw [tmod2, t4]; rfl)
    have HT := Bx.mk t3
    have HT5 := Bx.mk t5
    obtain ⟨as0, has⟩ : ∃ y, ab.order.start = y := ⟨_, rfl⟩
    obtain ⟨at0, hat⟩ : ∃ y, ab.state = y := ⟨_, rfl⟩
    have HAS := Bx.mk has
    have HAT := Bx.mk hat
    have HWT : Bx (∀ a ∈ aa.take hf, (Lit.int .i64 a.number).wf = true) := Bx.mk fun a ha => HW.out a (List.mem_of_mem_take ha)
    have HWD : Bx (∀ a ∈ aa.drop hf, (Lit.int .i64 a.number).wf = true) := Bx.mk fun a ha => HW.out a (List.mem_of_mem_drop ha)
    clear has hat hab hpn hqn k1' k2' k3' k4' k5' k6' t1 t3 t4 t5 hhf
    go_upto_region 11 with (fail)
    try rw [hhf2]
    try rw [hhf3]
    clear hg3 hg5 hg7 q2 q4 q6
    refine wp_reg (σ := ((Option Addr × Nat × Nat) × (Option Addr × Nat × Nat) × (Option Addr × Nat × Nat)) × Nat) (by kernel_rfl) (by kernel_rfl) (by kernel_rfl)
      (fun s i => match i with
        | 0 => .agg #[.int .i64 os, .slice B1 m1 d1, .slice B2 m2 d2, .slice B3 m3 d3, .int .i64 st]
        | 1 => .slice A4 n4 c4
        | 2 => .int .i64 (hf : Int)
        | 3 => .slice A4 hf c4
        | 4 => .tuple #[.agg #[.int .i64 as0, .slice s.1.1.1 s.1.1.2.1 s.1.1.2.2, .slice s.1.2.1.1 s.1.2.1.2.1 s.1.2.1.2.2, .slice s.1.2.2.1 s.1.2.2.2.1 s.1.2.2.2.2, .int .i64 at0], .int .i64 (pn : Nat)]
        | 5 => .tuple #[.agg #[.int .i64 as0, .slice s.1.1.1 s.1.1.2.1 s.1.1.2.2, .slice s.1.2.1.1 s.1.2.1.2.1 s.1.2.1.2.2, .slice s.1.2.2.1 s.1.2.2.2.1 s.1.2.2.2.2, .int .i64 at0], .int .i64 (pn : Nat)]
        | 6 => .agg #[.int .i64 as0, .slice s.1.1.1 s.1.1.2.1 s.1.1.2.2, .slice s.1.2.1.1 s.1.2.1.2.1 s.1.2.1.2.2, .slice s.1.2.2.1 s.1.2.2.2.1 s.1.2.2.2.2, .int .i64 at0]
        | 7 => .int .i64 (pn : Nat)
        | 8 => .pointer (some ⟨s.2, 0, none⟩)
        | 10 => .int .i64 (pn : Nat)
        | _ => undef)
      (fun D s wy => Sn w wy fun i => match i with
        | 0 => some (rBook (.agg #[.int .i64 os, .slice B1 m1 d1, .slice B2 m2 d2, .slice B3 m3 d3, .int .i64 st]) b)
        | 1 => some (rActs (.slice A4 n4 c4) aa)
        | 2 => some (rBlk g3 28 #[.int .i64 os, .slice B1 m1 d1, .slice B2 m2 d2, .slice B3 m3 d3, .int .i64 st])
        | 3 => some (rBook (.agg #[.int .i64 xs0, .slice X1 i1 j1, .slice X2 i2 j2, .slice X3 i3 j3, .int .i64 (xk : Int)]) x)
        | 4 => some (rBlk g5 28 #[.int .i64 xs0, .slice X1 i1 j1, .slice X2 i2 j2, .slice X3 i3 j3, .int .i64 (xk : Int)])
        | 5 => some (rBook (.agg #[.int .i64 xs0, .slice Y1 k1 l1, .slice Y2 k2 l2, .slice Y3 k3 l3, .int .i64 (xk : Int)]) x)
        | 6 => some (rBlk g7 28 #[.int .i64 xs0, .slice Y1 k1 l1, .slice Y2 k2 l2, .slice Y3 k3 l3, .int .i64 (xk : Int)])
        | 7 => if D 4 = true then some (rBook (.agg #[.int .i64 as0, .slice s.1.1.1 s.1.1.2.1 s.1.1.2.2, .slice s.1.2.1.1 s.1.2.1.2.1 s.1.2.1.2.2, .slice s.1.2.2.1 s.1.2.2.2.1 s.1.2.2.2.2, .int .i64 at0]) ab) else none
        | 8 => if D 8 = true then some (rBlk s.2 28 (if D 9 = true then #[.int .i64 as0, .slice s.1.1.1 s.1.1.2.1 s.1.1.2.2, .slice s.1.2.1.1 s.1.2.1.2.1 s.1.2.1.2.2, .slice s.1.2.2.1 s.1.2.2.2.1 s.1.2.2.2.2, .int .i64 at0] else #[.int .i64 0, .slice none 0 0, .slice none 0 0, .slice none 0 0, .int .i64 0])) else none
        | _ => none)
      (((none, 0, 0), (none, 0, 0), (none, 0, 0)), 0) ?_ ?_ ?_
    · intro D hD
      refine ((Sn.of_st HS5.out).quiet ((Below.refl _ _).drew)).congr fun i => ?_
      match i with
      | 0 => rfl
      | 1 => rfl
      | 2 => rfl
      | 3 => rfl
      | 4 => rfl
      | 5 => rfl
      | 6 => rfl
      | 7 => simp only [hD 4 (by decide)]; rfl
      | 8 => simp only [hD 8 (by decide)]; rfl
      | q + 9 => rfl
    · refine StepAll.cons (fun D s wy hR (hDi : D 0 = false) hd hsh a' hs K hK => ?_) ?_
      · have e3 := hs.old 3 (u := .pointer (some ⟨g3, 0, none⟩)) (by kernel_rfl) rfl
        clear hs
        have kb : Blk wy (g3) 28 #[.int .i64 os, .slice B1 m1 d1, .slice B2 m2 d2, .slice B3 m3 d3, .int .i64 st] := hR.blk 2 rfl
        have c0 : wy.cell? ⟨g3, 0, none⟩ = some (.int .i64 os) := kb.cell 0
        have c1 : wy.cell? ⟨g3, 1, none⟩ = some (.slice B1 m1 d1) := kb.cell 1
        have c2 : wy.cell? ⟨g3, 2, none⟩ = some (.slice B2 m2 d2) := kb.cell 2
        have c3 : wy.cell? ⟨g3, 3, none⟩ = some (.slice B3 m3 d3) := kb.cell 3
        have c4 : wy.cell? ⟨g3, 4, none⟩ = some (.int .i64 st) := kb.cell 4
        go_simp
        exact hK s wy (fun _ _ => rfl) hR
      refine StepAll.cons (fun D s wy hR (hDi : D 1 = false) hd hsh a' hs K hK => ?_) ?_
      · have e4 := hs.old 4 (u := .slice A4 n4 c4) (by kernel_rfl) rfl
        clear hs
        go_simp
        exact hK s wy (fun _ _ => rfl) hR
      refine StepAll.cons (fun D s wy hR (hDi : D 2 = false) hd hsh a' hs K hK => ?_) ?_
      · have e9 := hs.old 9 (u := .int .i64 (hf : Int)) (by kernel_rfl) rfl
        clear hs
        go_simp
        exact hK s wy (fun _ _ => rfl) hR
      refine StepAll.cons (fun D s wy hR (hDi : D 3 = false) hd hsh a' hs K hK => ?_) ?_
      · have e65 := hs.at_ 1 65 (u := .slice A4 n4 c4) rfl (hd ⟨1, .data⟩ (by simp) rfl) (by kernel_rfl) (by kernel_rfl) rfl
        have e66 := hs.at_ 2 66 (u := .int .i64 (hf : Int)) rfl (hd ⟨2, .data⟩ (by simp) rfl) (by kernel_rfl) (by kernel_rfl) rfl
        clear hs
        refine step_take 62 (.tmp 65) (.tmp 66) rfl 2 (by kernel_rfl) sizeAct A4 n4 c4 hf e65 e66 (by omega) ?_
        exact hK s wy (fun _ _ => rfl) hR
      refine StepAll.cons (fun D s wy hR (hDi : D 4 = false) hd hsh a' hs K hK => ?_) ?_
      · have e64 := hs.at_ 0 64 (u := .agg #[.int .i64 os, .slice B1 m1 d1, .slice B2 m2 d2, .slice B3 m3 d3, .int .i64 st]) rfl (hd ⟨0, .data⟩ (by simp) rfl) (by kernel_rfl) (by kernel_rfl) rfl
        have e67 := hs.at_ 3 67 (u := .slice A4 hf c4) rfl (hd ⟨3, .data⟩ (by simp) rfl) (by kernel_rfl) (by kernel_rfl) rfl
        have g64 := getQ e64
        have g67 := getQ e67
        clear hs
        have n5 : D 5 = false := hsh.no hDi 5 rfl ⟨4, .data⟩ (by simp) rfl rfl
        have n6 : D 6 = false := hsh.no n5 6 rfl ⟨5, .data⟩ (by simp) rfl rfl
        have n7 : D 7 = false := hsh.no n5 7 rfl ⟨5, .data⟩ (by simp) rfl rfl
        have n9 : D 9 = false := hsh.no n6 9 rfl ⟨6, .data⟩ (by simp) rfl rfl
        have n10 : D 10 = false := hsh.no n7 10 rfl ⟨7, .data⟩ (by simp) rfl rfl
        go_simp
        refine (bookRun_impl _ b _ _ _ (aa.take hf) _ (hR.rdB 0 rfl) ((hR.to_st [1] (by decide) (L := [rActs (.slice A4 n4 c4) aa]) rfl).rdA' 0 rfl |>.take hhf1) HWT.out).mono ?_
        rw [HAB.out, HPN.out]
        rintro e2 w2 ⟨v2, rfl, s2⟩
        obtain ⟨Q1, y1, z1, Q2, y2, z2, Q3, y3, z3, hv⟩ := s2.formB 0 rfl
        rw [HAS.out, HAT.out] at hv
        subst hv
        refine hK (((Q1, y1, z1), (Q2, y2, z2), (Q3, y3, z3)), s.2) w2
          (fun j hj => by
            match j, hj with
            | 0, hj => rfl
            | 1, hj => rfl
            | 2, hj => rfl
            | 3, hj => rfl
            | 4, hj => rw [hDi] at hj; cases hj
            | 5, hj => rw [n5] at hj; cases hj
            | 6, hj => rw [n6] at hj; cases hj
            | 7, hj => rw [n7] at hj; cases hj
            | 8, hj => rfl
            | 9, hj => rw [n9] at hj; cases hj
            | 10, hj => rw [n10] at hj; cases hj
            | _ + 11, hj => rfl)
          ((hR.add 7 (if_neg (by rw [hDi]; simp)) s2).congr
            (fun i => by
              match i with
              | 0 => rfl
              | 1 => rfl
              | 2 => rfl
              | 3 => rfl
              | 4 => rfl
              | 5 => rfl
              | 6 => rfl
              | 7 => rfl
              | 8 => (show (if D 8 = true then some (rBlk _ _ (if D 9 = true then _ else _)) else none) = (if D 8 = true then some (rBlk _ _ (if D 9 = true then _ else _)) else none); rw [n9] <;> rfl)
              | q + 9 => exact (if_neg (show ¬ (q + 9 = 7) by omega)).symm))
      refine StepAll.cons (fun D s wy hR (hDi : D 5 = false) hd hsh a' hs K hK => ?_) ?_
      · have e68 := hs.at_ 4 68 (u := .tuple #[.agg #[.int .i64 as0, .slice s.1.1.1 s.1.1.2.1 s.1.1.2.2, .slice s.1.2.1.1 s.1.2.1.2.1 s.1.2.1.2.2, .slice s.1.2.2.1 s.1.2.2.2.1 s.1.2.2.2.2, .int .i64 at0], .int .i64 (pn : Nat)]) rfl (hd ⟨4, .data⟩ (by simp) rfl) (by kernel_rfl) (by kernel_rfl) rfl
        clear hs
        go_simp
        exact hK s wy (fun _ _ => rfl) hR
      refine StepAll.cons (fun D s wy hR (hDi : D 6 = false) hd hsh a' hs K hK => ?_) ?_
      · have e63 := hs.at_ 5 63 (u := .tuple #[.agg #[.int .i64 as0, .slice s.1.1.1 s.1.1.2.1 s.1.1.2.2, .slice s.1.2.1.1 s.1.2.1.2.1 s.1.2.1.2.2, .slice s.1.2.2.1 s.1.2.2.2.1 s.1.2.2.2.2, .int .i64 at0], .int .i64 (pn : Nat)]) rfl (hd ⟨5, .data⟩ (by simp) rfl) (by kernel_rfl) (by kernel_rfl) rfl
        clear hs
        go_simp
        exact hK s wy (fun _ _ => rfl) hR
      refine StepAll.cons (fun D s wy hR (hDi : D 7 = false) hd hsh a' hs K hK => ?_) ?_
      · have e63 := hs.at_ 5 63 (u := .tuple #[.agg #[.int .i64 as0, .slice s.1.1.1 s.1.1.2.1 s.1.1.2.2, .slice s.1.2.1.1 s.1.2.1.2.1 s.1.2.1.2.2, .slice s.1.2.2.1 s.1.2.2.2.1 s.1.2.2.2.2, .int .i64 at0], .int .i64 (pn : Nat)]) rfl (hd ⟨5, .data⟩ (by simp) rfl) (by kernel_rfl) (by kernel_rfl) rfl
        clear hs
        go_simp
        exact hK s wy (fun _ _ => rfl) hR
      refine StepAll.cons (fun D s wy hR (hDi : D 8 = false) hd hsh a' hs K hK => ?_) ?_
      · clear hs
        have n9 : D 9 = false := hsh.no hDi 9 rfl ⟨8, .data⟩ (by simp) rfl rfl
        go_simp
        refine hK (s.1, wy.heap.size) _
          (fun j hj => by
            match j, hj with
            | 0, hj => rfl
            | 1, hj => rfl
            | 2, hj => rfl
            | 3, hj => rfl
            | 4, hj => rfl
            | 5, hj => rfl
            | 6, hj => rfl
            | 7, hj => rfl
            | 8, hj => rw [hDi] at hj; cases hj
            | 9, hj => rfl
            | 10, hj => rfl
            | _ + 11, hj => rfl)
          ((hR.add 8 (if_neg (by rw [hDi]; simp)) (St.new1 wy #[.int .i64 0, .slice none 0 0, .slice none 0 0, .slice none 0 0, .int .i64 0] 28)).congr
            (fun i => by
              match i with
              | 0 => rfl
              | 1 => rfl
              | 2 => rfl
              | 3 => rfl
              | 4 => rfl
              | 5 => rfl
              | 6 => rfl
              | 7 => rfl
              | 8 => (show some (rBlk _ _ (if D 9 = true then _ else _)) = some (rBlk _ _ _); rw [n9] <;> rfl)
              | q + 9 => exact (if_neg (show ¬ (q + 9 = 8) by omega)).symm))
      refine StepAll.cons (fun D s wy hR (hDi : D 9 = false) hd hsh a' hs K hK => ?_) ?_
      · have e10 := hs.at_ 8 10 (u := .pointer (some ⟨s.2, 0, none⟩)) rfl (hd ⟨8, .data⟩ (by simp) rfl) (by kernel_rfl) (by kernel_rfl) rfl
        have e69 := hs.at_ 6 69 (u := .agg #[.int .i64 as0, .slice s.1.1.1 s.1.1.2.1 s.1.1.2.2, .slice s.1.2.1.1 s.1.2.1.2.1 s.1.2.1.2.2, .slice s.1.2.2.1 s.1.2.2.2.1 s.1.2.2.2.2, .int .i64 at0]) rfl (hd ⟨6, .data⟩ (by simp) rfl) (by kernel_rfl) (by kernel_rfl) rfl
        clear hs
        have d8 : D 8 = true := hd ⟨8, .data⟩ (by simp) rfl
        have kb : Blk wy s.2 28 #[.int .i64 0, .slice none 0 0, .slice none 0 0, .slice none 0 0, .int .i64 0] := hR.blk 8 (by simp only [d8, hDi] <;> rfl)
        have f0 := kb.frozen
        have c0 : wy.cell? ⟨s.2, 0, none⟩ = some (.int .i64 0) := kb.cell 0
        have c1 : wy.cell? ⟨s.2, 1, none⟩ = some (.slice none 0 0) := kb.cell 1
        have c2 : wy.cell? ⟨s.2, 2, none⟩ = some (.slice none 0 0) := kb.cell 2
        have c3 : wy.cell? ⟨s.2, 3, none⟩ = some (.slice none 0 0) := kb.cell 3
        have c4 : wy.cell? ⟨s.2, 4, none⟩ = some (.int .i64 0) := kb.cell 4
        go_simp
        exact hK s _ (fun _ _ => rfl) ((hR.set5 8 (by simp only [d8, hDi]; rfl) _ _ _ _ _).congr
            (fun i => by
              match i with
              | 0 => rfl
              | 1 => rfl
              | 2 => rfl
              | 3 => rfl
              | 4 => rfl
              | 5 => rfl
              | 6 => rfl
              | 7 => rfl
              | 8 => (show (if D 8 = true then some (rBlk _ _ _) else none) = some (rBlk _ _ _); rw [d8]; rfl)
              | q + 9 => exact (if_neg (show ¬ (q + 9 = 8) by omega)).symm))
      refine StepAll.cons (fun D s wy hR (hDi : D 10 = false) hd hsh a' hs K hK => ?_) ?_
      · have e70 := hs.at_ 7 70 (u := .int .i64 (pn : Nat)) rfl (hd ⟨7, .data⟩ (by simp) rfl) (by kernel_rfl) (by kernel_rfl) rfl
        clear hs
        go_simp
        exact hK s wy (fun _ _ => rfl) hR
      exact StepAll.nil
    · intro D s wy hR hD
      simp only [putA, Act.put, List.setIfInBounds_toArray, List.set_cons_zero, List.set_cons_succ]
      have HS7' := hR.to_st [0, 1, 2, 3, 4, 5, 6, 7, 8] (L := [rBook (.agg #[.int .i64 os, .slice B1 m1 d1, .slice B2 m2 d2, .slice B3 m3 d3, .int .i64 st]) b, rActs (.slice A4 n4 c4) aa, rBlk g3 28 #[.int .i64 os, .slice B1 m1 d1, .slice B2 m2 d2, .slice B3 m3 d3, .int .i64 st], rBook (.agg #[.int .i64 xs0, .slice X1 i1 j1, .slice X2 i2 j2, .slice X3 i3 j3, .int .i64 (xk : Int)]) x, rBlk g5 28 #[.int .i64 xs0, .slice X1 i1 j1, .slice X2 i2 j2, .slice X3 i3 j3, .int .i64 (xk : Int)], rBook (.agg #[.int .i64 xs0, .slice Y1 k1 l1, .slice Y2 k2 l2, .slice Y3 k3 l3, .int .i64 (xk : Int)]) x, rBlk g7 28 #[.int .i64 xs0, .slice Y1 k1 l1, .slice Y2 k2 l2, .slice Y3 k3 l3, .int .i64 (xk : Int)], rBook (.agg #[.int .i64 as0, .slice s.1.1.1 s.1.1.2.1 s.1.1.2.2, .slice s.1.2.1.1 s.1.2.1.2.1 s.1.2.1.2.2, .slice s.1.2.2.1 s.1.2.2.2.1 s.1.2.2.2.2, .int .i64 at0]) ab, rBlk s.2 28 #[.int .i64 as0, .slice s.1.1.1 s.1.1.2.1 s.1.1.2.2, .slice s.1.2.1.1 s.1.2.1.2.1 s.1.2.1.2.2, .slice s.1.2.2.1 s.1.2.2.2.1 s.1.2.2.2.2, .int .i64 at0]]) (by decide) (by simp only [List.map, hD 4 (by decide), hD 8 (by decide), hD 9 (by decide)] <;> rfl)
      obtain ⟨⟨⟨E1, u1, v1⟩, ⟨E2, u2, v2⟩, ⟨E3, u3, v3⟩⟩, g10⟩ := s
      have HS7 : Hid (St w wy [rBook (.agg #[.int .i64 os, .slice B1 m1 d1, .slice B2 m2 d2, .slice B3 m3 d3, .int .i64 st]) b, rActs (.slice A4 n4 c4) aa, rBlk g3 28 #[.int .i64 os, .slice B1 m1 d1, .slice B2 m2 d2, .slice B3 m3 d3, .int .i64 st], rBook (.agg #[.int .i64 xs0, .slice X1 i1 j1, .slice X2 i2 j2, .slice X3 i3 j3, .int .i64 (xk : Int)]) x, rBlk g5 28 #[.int .i64 xs0, .slice X1 i1 j1, .slice X2 i2 j2, .slice X3 i3 j3, .int .i64 (xk : Int)], rBook (.agg #[.int .i64 xs0, .slice Y1 k1 l1, .slice Y2 k2 l2, .slice Y3 k3 l3, .int .i64 (xk : Int)]) x, rBlk g7 28 #[.int .i64 xs0, .slice Y1 k1 l1, .slice Y2 k2 l2, .slice Y3 k3 l3, .int .i64 (xk : Int)], rBook (.agg #[.int .i64 as0, .slice E1 u1 v1, .slice E2 u2 v2, .slice E3 u3 v3, .int .i64 at0]) ab, rBlk g10 28 #[.int .i64 as0, .slice E1 u1 v1, .slice E2 u2 v2, .slice E3 u3 v3, .int .i64 at0]]) := Lib.hid HS7'
      clear hR hD HS5 HS7'
      go_upto_region 12 with (fail)
      refine wp_reg (σ := ((Option Addr × Nat × Nat) × (Option Addr × Nat × Nat) × (Option Addr × Nat × Nat)) × Nat) (by kernel_rfl) (by kernel_rfl) (by kernel_rfl)
        (fun s i => match i with
          | 0 => .agg #[.int .i64 as0, .slice E1 u1 v1, .slice E2 u2 v2, .slice E3 u3 v3, .int .i64 at0]
          | 1 => .slice A4 n4 c4
          | 2 => .int .i64 (hf : Int)
          | 3 => .slice (offA A4 c4 hf 2) (n4 - hf) (c4 - hf)
          | 4 => .tuple #[.agg #[.int .i64 xs0, .slice s.1.1.1 s.1.1.2.1 s.1.1.2.2, .slice s.1.2.1.1 s.1.2.1.2.1 s.1.2.1.2.2, .slice s.1.2.2.1 s.1.2.2.2.1 s.1.2.2.2.2, .int .i64 (xk : Int)], .int .i64 (qn : Nat)]
          | 5 => .tuple #[.agg #[.int .i64 xs0, .slice s.1.1.1 s.1.1.2.1 s.1.1.2.2, .slice s.1.2.1.1 s.1.2.1.2.1 s.1.2.1.2.2, .slice s.1.2.2.1 s.1.2.2.2.1 s.1.2.2.2.2, .int .i64 (xk : Int)], .int .i64 (qn : Nat)]
          | 6 => .agg #[.int .i64 xs0, .slice s.1.1.1 s.1.1.2.1 s.1.1.2.2, .slice s.1.2.1.1 s.1.2.1.2.1 s.1.2.1.2.2, .slice s.1.2.2.1 s.1.2.2.2.1 s.1.2.2.2.2, .int .i64 (xk : Int)]
          | 7 => .int .i64 (qn : Nat)
          | 8 => .pointer (some ⟨s.2, 0, none⟩)
          | 10 => .int .i64 (qn : Nat)
          | _ => undef)
        (fun D s wz => Sn w wz fun i => match i with
          | 0 => some (rBook (.agg #[.int .i64 os, .slice B1 m1 d1, .slice B2 m2 d2, .slice B3 m3 d3, .int .i64 st]) b)
          | 1 => some (rActs (.slice A4 n4 c4) aa)
          | 2 => some (rBlk g3 28 #[.int .i64 os, .slice B1 m1 d1, .slice B2 m2 d2, .slice B3 m3 d3, .int .i64 st])
          | 3 => some (rBook (.agg #[.int .i64 xs0, .slice X1 i1 j1, .slice X2 i2 j2, .slice X3 i3 j3, .int .i64 (xk : Int)]) x)
          | 4 => some (rBlk g5 28 #[.int .i64 xs0, .slice X1 i1 j1, .slice X2 i2 j2, .slice X3 i3 j3, .int .i64 (xk : Int)])
          | 5 => some (rBook (.agg #[.int .i64 xs0, .slice Y1 k1 l1, .slice Y2 k2 l2, .slice Y3 k3 l3, .int .i64 (xk : Int)]) x)
          | 6 => some (rBlk g7 28 #[.int .i64 xs0, .slice Y1 k1 l1, .slice Y2 k2 l2, .slice Y3 k3 l3, .int .i64 (xk : Int)])
          | 7 => some (rBook (.agg #[.int .i64 as0, .slice E1 u1 v1, .slice E2 u2 v2, .slice E3 u3 v3, .int .i64 at0]) ab)
          | 8 => some (rBlk g10 28 #[.int .i64 as0, .slice E1 u1 v1, .slice E2 u2 v2, .slice E3 u3 v3, .int .i64 at0])
          | 9 => if D 4 = true then some (rBook (.agg #[.int .i64 xs0, .slice s.1.1.1 s.1.1.2.1 s.1.1.2.2, .slice s.1.2.1.1 s.1.2.1.2.1 s.1.2.1.2.2, .slice s.1.2.2.1 s.1.2.2.2.1 s.1.2.2.2.2, .int .i64 (xk : Int)]) x) else none
          | 10 => if D 8 = true then some (rBlk s.2 28 (if D 9 = true then #[.int .i64 xs0, .slice s.1.1.1 s.1.1.2.1 s.1.1.2.2, .slice s.1.2.1.1 s.1.2.1.2.1 s.1.2.1.2.2, .slice s.1.2.2.1 s.1.2.2.2.1 s.1.2.2.2.2, .int .i64 (xk : Int)] else #[.int .i64 0, .slice none 0 0, .slice none 0 0, .slice none 0 0, .int .i64 0])) else none
          | _ => none)
        (((none, 0, 0), (none, 0, 0), (none, 0, 0)), 0) ?_ ?_ ?_
      · intro D hD
        refine ((Sn.of_st HS7.out).quiet ((Below.refl _ _).drew)).congr fun i => ?_
        match i with
        | 0 => rfl
        | 1 => rfl
        | 2 => rfl
        | 3 => rfl
        | 4 => rfl
        | 5 => rfl
        | 6 => rfl
        | 7 => rfl
        | 8 => rfl
        | 9 => simp only [hD 4 (by decide)]; rfl
        | 10 => simp only [hD 8 (by decide)]; rfl
        | q + 11 => rfl
      · refine StepAll.cons (fun D s wz hR (hDi : D 0 = false) hd hsh a' hs K hK => ?_) ?_
        · have e10 := hs.old 10 (u := .pointer (some ⟨g10, 0, none⟩)) (by kernel_rfl) rfl
          clear hs
          have kb : Blk wz (g10) 28 #[.int .i64 as0, .slice E1 u1 v1, .slice E2 u2 v2, .slice E3 u3 v3, .int .i64 at0] := hR.blk 8 rfl
          have c0 : wz.cell? ⟨g10, 0, none⟩ = some (.int .i64 as0) := kb.cell 0
          have c1 : wz.cell? ⟨g10, 1, none⟩ = some (.slice E1 u1 v1) := kb.cell 1
          have c2 : wz.cell? ⟨g10, 2, none⟩ = some (.slice E2 u2 v2) := kb.cell 2
          have c3 : wz.cell? ⟨g10, 3, none⟩ = some (.slice E3 u3 v3) := kb.cell 3
          have c4 : wz.cell? ⟨g10, 4, none⟩ = some (.int .i64 at0) := kb.cell 4
          go_simp
          exact hK s wz (fun _ _ => rfl) hR
        refine StepAll.cons (fun D s wz hR (hDi : D 1 = false) hd hsh a' hs K hK => ?_) ?_
        · have e4 := hs.old 4 (u := .slice A4 n4 c4) (by kernel_rfl) rfl
          clear hs
          go_simp
          exact hK s wz (fun _ _ => rfl) hR
        refine StepAll.cons (fun D s wz hR (hDi : D 2 = false) hd hsh a' hs K hK => ?_) ?_
        · have e9 := hs.old 9 (u := .int .i64 (hf : Int)) (by kernel_rfl) rfl
          clear hs
          go_simp
          exact hK s wz (fun _ _ => rfl) hR
        refine StepAll.cons (fun D s wz hR (hDi : D 3 = false) hd hsh a' hs K hK => ?_) ?_
        · have e73 := hs.at_ 1 73 (u := .slice A4 n4 c4) rfl (hd ⟨1, .data⟩ (by simp) rfl) (by kernel_rfl) (by kernel_rfl) rfl
          have e74 := hs.at_ 2 74 (u := .int .i64 (hf : Int)) rfl (hd ⟨2, .data⟩ (by simp) rfl) (by kernel_rfl) (by kernel_rfl) rfl
          clear hs
          refine step_drop 62 (.tmp 73) (.tmp 74) rfl 2 (by kernel_rfl) sizeAct A4 n4 c4 hf e73 e74 (by omega) ?_
          exact hK s wz (fun _ _ => rfl) hR
        refine StepAll.cons (fun D s wz hR (hDi : D 4 = false) hd hsh a' hs K hK => ?_) ?_
        · have e72 := hs.at_ 0 72 (u := .agg #[.int .i64 as0, .slice E1 u1 v1, .slice E2 u2 v2, .slice E3 u3 v3, .int .i64 at0]) rfl (hd ⟨0, .data⟩ (by simp) rfl) (by kernel_rfl) (by kernel_rfl) rfl
          have e75 := hs.at_ 3 75 (u := .slice (offA A4 c4 hf 2) (n4 - hf) (c4 - hf)) rfl (hd ⟨3, .data⟩ (by simp) rfl) (by kernel_rfl) (by kernel_rfl) rfl
          have g72 := getQ e72
          have g75 := getQ e75
          clear hs
          have n5 : D 5 = false := hsh.no hDi 5 rfl ⟨4, .data⟩ (by simp) rfl rfl
          have n6 : D 6 = false := hsh.no n5 6 rfl ⟨5, .data⟩ (by simp) rfl rfl
          have n7 : D 7 = false := hsh.no n5 7 rfl ⟨5, .data⟩ (by simp) rfl rfl
          have n9 : D 9 = false := hsh.no n6 9 rfl ⟨6, .data⟩ (by simp) rfl rfl
          have n10 : D 10 = false := hsh.no n7 10 rfl ⟨7, .data⟩ (by simp) rfl rfl
          go_simp
          refine (bookRun_impl _ ab _ _ _ (aa.drop hf) _ (hR.rdB 7 rfl) ((hR.to_st [1] (by decide) (L := [rActs (.slice A4 n4 c4) aa]) rfl).rdA' 0 rfl |>.drop hhf1) HWD.out).mono ?_
          rw [HCX.out, HQN.out]
          rintro e2 w2 ⟨v2, rfl, s2⟩
          obtain ⟨Q1, y1, z1, Q2, y2, z2, Q3, y3, z3, hv⟩ := s2.formB 0 rfl
          rw [HXS.out, HXT.out] at hv
          subst hv
          refine hK (((Q1, y1, z1), (Q2, y2, z2), (Q3, y3, z3)), s.2) w2
            (fun j hj => by
              match j, hj with
              | 0, hj => rfl
              | 1, hj => rfl
              | 2, hj => rfl
              | 3, hj => rfl
              | 4, hj => rw [hDi] at hj; cases hj
              | 5, hj => rw [n5] at hj; cases hj
              | 6, hj => rw [n6] at hj; cases hj
              | 7, hj => rw [n7] at hj; cases hj
              | 8, hj => rfl
              | 9, hj => rw [n9] at hj; cases hj
              | 10, hj => rw [n10] at hj; cases hj
              | _ + 11, hj => rfl)
            ((hR.add 9 (if_neg (by rw [hDi]; simp)) s2).congr
              (fun i => by
                match i with
                | 0 => rfl
                | 1 => rfl
                | 2 => rfl
                | 3 => rfl
                | 4 => rfl
                | 5 => rfl
                | 6 => rfl
                | 7 => rfl
                | 8 => rfl
                | 9 => rfl
                | 10 => (show (if D 8 = true then some (rBlk _ _ (if D 9 = true then _ else _)) else none) = (if D 8 = true then some (rBlk _ _ (if D 9 = true then _ else _)) else none); rw [n9] <;> rfl)
                | q + 11 => exact (if_neg (show ¬ (q + 11 = 9) by omega)).symm))
        refine StepAll.cons (fun D s wz hR (hDi : D 5 = false) hd hsh a' hs K hK => ?_) ?_
        · have e76 := hs.at_ 4 76 (u := .tuple #[.agg #[.int .i64 xs0, .slice s.1.1.1 s.1.1.2.1 s.1.1.2.2, .slice s.1.2.1.1 s.1.2.1.2.1 s.1.2.1.2.2, .slice s.1.2.2.1 s.1.2.2.2.1 s.1.2.2.2.2, .int .i64 (xk : Int)], .int .i64 (qn : Nat)]) rfl (hd ⟨4, .data⟩ (by simp) rfl) (by kernel_rfl) (by kernel_rfl) rfl
          clear hs
          go_simp
          exact hK s wz (fun _ _ => rfl) hR
        refine StepAll.cons (fun D s wz hR (hDi : D 6 = false) hd hsh a' hs K hK => ?_) ?_
        · have e71 := hs.at_ 5 71 (u := .tuple #[.agg #[.int .i64 xs0, .slice s.1.1.1 s.1.1.2.1 s.1.1.2.2, .slice s.1.2.1.1 s.1.2.1.2.1 s.1.2.1.2.2, .slice s.1.2.2.1 s.1.2.2.2.1 s.1.2.2.2.2, .int .i64 (xk : Int)], .int .i64 (qn : Nat)]) rfl (hd ⟨5, .data⟩ (by simp) rfl) (by kernel_rfl) (by kernel_rfl) rfl
          clear hs
          go_simp
          exact hK s wz (fun _ _ => rfl) hR
        refine StepAll.cons (fun D s wz hR (hDi : D 7 = false) hd hsh a' hs K hK => ?_) ?_
        · have e71 := hs.at_ 5 71 (u := .tuple #[.agg #[.int .i64 xs0, .slice s.1.1.1 s.1.1.2.1 s.1.1.2.2, .slice s.1.2.1.1 s.1.2.1.2.1 s.1.2.1.2.2, .slice s.1.2.2.1 s.1.2.2.2.1 s.1.2.2.2.2, .int .i64 (xk : Int)], .int .i64 (qn : Nat)]) rfl (hd ⟨5, .data⟩ (by simp) rfl) (by kernel_rfl) (by kernel_rfl) rfl
          clear hs
          go_simp
          exact hK s wz (fun _ _ => rfl) hR
        refine StepAll.cons (fun D s wz hR (hDi : D 8 = false) hd hsh a' hs K hK => ?_) ?_
        · clear hs
          have n9 : D 9 = false := hsh.no hDi 9 rfl ⟨8, .data⟩ (by simp) rfl rfl
          go_simp
          refine hK (s.1, wz.heap.size) _
            (fun j hj => by
              match j, hj with
              | 0, hj => rfl
              | 1, hj => rfl
              | 2, hj => rfl
              | 3, hj => rfl
              | 4, hj => rfl
              | 5, hj => rfl
              | 6, hj => rfl
              | 7, hj => rfl
              | 8, hj => rw [hDi] at hj; cases hj
              | 9, hj => rfl
              | 10, hj => rfl
              | _ + 11, hj => rfl)
            ((hR.add 10 (if_neg (by rw [hDi]; simp)) (St.new1 wz #[.int .i64 0, .slice none 0 0, .slice none 0 0, .slice none 0 0, .int .i64 0] 28)).congr
              (fun i => by
                match i with
                | 0 => rfl
                | 1 => rfl
                | 2 => rfl
                | 3 => rfl
                | 4 => rfl
                | 5 => rfl
                | 6 => rfl
                | 7 => rfl
                | 8 => rfl
                | 9 => rfl
                | 10 => (show some (rBlk _ _ (if D 9 = true then _ else _)) = some (rBlk _ _ _); rw [n9] <;> rfl)
                | q + 11 => exact (if_neg (show ¬ (q + 11 = 10) by omega)).symm))
        refine StepAll.cons (fun D s wz hR (hDi : D 9 = false) hd hsh a' hs K hK => ?_) ?_
        · have e12 := hs.at_ 8 12 (u := .pointer (some ⟨s.2, 0, none⟩)) rfl (hd ⟨8, .data⟩ (by simp) rfl) (by kernel_rfl) (by kernel_rfl) rfl
          have e77 := hs.at_ 6 77 (u := .agg #[.int .i64 xs0, .slice s.1.1.1 s.1.1.2.1 s.1.1.2.2, .slice s.1.2.1.1 s.1.2.1.2.1 s.1.2.1.2.2, .slice s.1.2.2.1 s.1.2.2.2.1 s.1.2.2.2.2, .int .i64 (xk : Int)]) rfl (hd ⟨6, .data⟩ (by simp) rfl) (by kernel_rfl) (by kernel_rfl) rfl
          clear hs
          have d8 : D 8 = true := hd ⟨8, .data⟩ (by simp) rfl
          have kb : Blk wz s.2 28 #[.int .i64 0, .slice none 0 0, .slice none 0 0, .slice none 0 0, .int .i64 0] := hR.blk 10 (by simp only [d8, hDi] <;> rfl)
          have f0 := kb.frozen
          have c0 : wz.cell? ⟨s.2, 0, none⟩ = some (.int .i64 0) := kb.cell 0
          have c1 : wz.cell? ⟨s.2, 1, none⟩ = some (.slice none 0 0) := kb.cell 1
          have c2 : wz.cell? ⟨s.2, 2, none⟩ = some (.slice none 0 0) := kb.cell 2
          have c3 : wz.cell? ⟨s.2, 3, none⟩ = some (.slice none 0 0) := kb.cell 3
          have c4 : wz.cell? ⟨s.2, 4, none⟩ = some (.int .i64 0) := kb.cell 4
          go_simp
          exact hK s _ (fun _ _ => rfl) ((hR.set5 10 (by simp only [d8, hDi]; rfl) _ _ _ _ _).congr
              (fun i => by
                match i with
                | 0 => rfl
                | 1 => rfl
                | 2 => rfl
                | 3 => rfl
                | 4 => rfl
                | 5 => rfl
                | 6 => rfl
                | 7 => rfl
                | 8 => rfl
                | 9 => rfl
                | 10 => (show (if D 8 = true then some (rBlk _ _ _) else none) = some (rBlk _ _ _); rw [d8]; rfl)
                | q + 11 => exact (if_neg (show ¬ (q + 11 = 10) by omega)).symm))
        refine StepAll.cons (fun D s wz hR (hDi : D 10 = false) hd hsh a' hs K hK => ?_) ?_
        · have e78 := hs.at_ 7 78 (u := .int .i64 (qn : Nat)) rfl (hd ⟨7, .data⟩ (by simp) rfl) (by kernel_rfl) (by kernel_rfl) rfl
          clear hs
          go_simp
          exact hK s wz (fun _ _ => rfl) hR
        exact StepAll.nil
      · intro D s wz hR hD
        simp only [putA, Act.put, List.setIfInBounds_toArray, List.set_cons_zero, List.set_cons_succ]
        have HS8' := hR.to_st [0, 1, 2, 3, 4, 5, 6, 7, 8, 9, 10] (L := [rBook (.agg #[.int .i64 os, .slice B1 m1 d1, .slice B2 m2 d2, .slice B3 m3 d3, .int .i64 st]) b, rActs (.slice A4 n4 c4) aa, rBlk g3 28 #[.int .i64 os, .slice B1 m1 d1, .slice B2 m2 d2, .slice B3 m3 d3, .int .i64 st], rBook (.agg #[.int .i64 xs0, .slice X1 i1 j1, .slice X2 i2 j2, .slice X3 i3 j3, .int .i64 (xk : Int)]) x, rBlk g5 28 #[.int .i64 xs0, .slice X1 i1 j1, .slice X2 i2 j2, .slice X3 i3 j3, .int .i64 (xk : Int)], rBook (.agg #[.int .i64 xs0, .slice Y1 k1 l1, .slice Y2 k2 l2, .slice Y3 k3 l3, .int .i64 (xk : Int)]) x, rBlk g7 28 #[.int .i64 xs0, .slice Y1 k1 l1, .slice Y2 k2 l2, .slice Y3 k3 l3, .int .i64 (xk : Int)], rBook (.agg #[.int .i64 as0, .slice E1 u1 v1, .slice E2 u2 v2, .slice E3 u3 v3, .int .i64 at0]) ab, rBlk g10 28 #[.int .i64 as0, .slice E1 u1 v1, .slice E2 u2 v2, .slice E3 u3 v3, .int .i64 at0], rBook (.agg #[.int .i64 xs0, .slice s.1.1.1 s.1.1.2.1 s.1.1.2.2, .slice s.1.2.1.1 s.1.2.1.2.1 s.1.2.1.2.2, .slice s.1.2.2.1 s.1.2.2.2.1 s.1.2.2.2.2, .int .i64 (xk : Int)]) x, rBlk s.2 28 #[.int .i64 xs0, .slice s.1.1.1 s.1.1.2.1 s.1.1.2.2, .slice s.1.2.1.1 s.1.2.1.2.1 s.1.2.1.2.2, .slice s.1.2.2.1 s.1.2.2.2.1 s.1.2.2.2.2, .int .i64 (xk : Int)]]) (by decide) (by simp only [List.map, hD 4 (by decide), hD 8 (by decide), hD 9 (by decide)] <;> rfl)
        obtain ⟨⟨⟨F1, r1, q1⟩, ⟨F2, r2, q2⟩, ⟨F3, r3, q3⟩⟩, g12⟩ := s
        have HS8 : Hid (St w wz [rBook (.agg #[.int .i64 os, .slice B1 m1 d1, .slice B2 m2 d2, .slice B3 m3 d3, .int .i64 st]) b, rActs (.slice A4 n4 c4) aa, rBlk g3 28 #[.int .i64 os, .slice B1 m1 d1, .slice B2 m2 d2, .slice B3 m3 d3, .int .i64 st], rBook (.agg #[.int .i64 xs0, .slice X1 i1 j1, .slice X2 i2 j2, .slice X3 i3 j3, .int .i64 (xk : Int)]) x, rBlk g5 28 #[.int .i64 xs0, .slice X1 i1 j1, .slice X2 i2 j2, .slice X3 i3 j3, .int .i64 (xk : Int)], rBook (.agg #[.int .i64 xs0, .slice Y1 k1 l1, .slice Y2 k2 l2, .slice Y3 k3 l3, .int .i64 (xk : Int)]) x, rBlk g7 28 #[.int .i64 xs0, .slice Y1 k1 l1, .slice Y2 k2 l2, .slice Y3 k3 l3, .int .i64 (xk : Int)], rBook (.agg #[.int .i64 as0, .slice E1 u1 v1, .slice E2 u2 v2, .slice E3 u3 v3, .int .i64 at0]) ab, rBlk g10 28 #[.int .i64 as0, .slice E1 u1 v1, .slice E2 u2 v2, .slice E3 u3 v3, .int .i64 at0], rBook (.agg #[.int .i64 xs0, .slice F1 r1 q1, .slice F2 r2 q2, .slice F3 r3 q3, .int .i64 (xk : Int)]) x, rBlk g12 28 #[.int .i64 xs0, .slice F1 r1 q1, .slice F2 r2 q2, .slice F3 r3 q3, .int .i64 (xk : Int)]]) := Lib.hid HS8'
        clear hR hD HS7 HS8'
        go_upto_region 13 with (fail)
        refine wp_reg (σ := Unit) (by kernel_rfl) (by kernel_rfl) (by kernel_rfl)
          (fun s i => match i with
            | 0 => .agg #[.int .i64 xs0, .slice X1 i1 j1, .slice X2 i2 j2, .slice X3 i3 j3, .int .i64 (xk : Int)]
            | 1 => .bool true
            | 2 => .bool true
            | 3 => .pointer (some ⟨g5, 0, none⟩)
            | 4 => .agg #[.int .i64 xs0, .slice X1 i1 j1, .slice X2 i2 j2]
            | 5 => .pointer (some ⟨g3, 0, none⟩)
            | 6 => .agg #[.int .i64 os, .slice B1 m1 d1, .slice B2 m2 d2]
            | 7 => .bool true
            | 8 => .bool true
            | 9 => .bool true
            | 10 => .agg #[.int .i64 xs0, .slice F1 r1 q1, .slice F2 r2 q2, .slice F3 r3 q3, .int .i64 (xk : Int)]
            | 11 => .agg #[.int .i64 xs0, .slice X1 i1 j1, .slice X2 i2 j2, .slice X3 i3 j3, .int .i64 (xk : Int)]
            | 12 => .bool true
            | 13 => .bool true
            | 14 => .bool true
            | 15 => .int .i64 (pn : Nat)
            | 16 => .int .i64 (qn : Nat)
            | 17 => .int .i64 (xn : Nat)
            | 18 => .int .i64 (xn : Nat)
            | 19 => .bool true
            | 20 => .bool true
            | 21 => .bool true
            | 22 => .pointer (some ⟨g3, 0, none⟩)
            | 23 => .agg #[.int .i64 os, .slice B1 m1 d1, .slice B2 m2 d2]
            | 24 => .int .i64 (rn : Nat)
            | 25 => .pointer (some ⟨g5, 4, none⟩)
            | 26 => .int .i64 (xk : Int)
            | 27 => .int .i64 ((rn : Int) / 2 ^ xk)
            | 28 => .int .i64 1
            | 29 => .bool true
            | 30 => .bool true
            | 31 => .bool true
            | _ => undef)
          (fun D s wx => Sn w wx fun i => match i with
            | 0 => some (rBook (.agg #[.int .i64 os, .slice B1 m1 d1, .slice B2 m2 d2, .slice B3 m3 d3, .int .i64 st]) b)
            | 1 => some (rActs (.slice A4 n4 c4) aa)
            | 2 => some (rBlk g3 28 #[.int .i64 os, .slice B1 m1 d1, .slice B2 m2 d2, .slice B3 m3 d3, .int .i64 st])
            | 3 => some (rBook (.agg #[.int .i64 xs0, .slice X1 i1 j1, .slice X2 i2 j2, .slice X3 i3 j3, .int .i64 (xk : Int)]) x)
            | 4 => some (rBlk g5 28 #[.int .i64 xs0, .slice X1 i1 j1, .slice X2 i2 j2, .slice X3 i3 j3, .int .i64 (xk : Int)])
            | 5 => some (rBook (.agg #[.int .i64 xs0, .slice Y1 k1 l1, .slice Y2 k2 l2, .slice Y3 k3 l3, .int .i64 (xk : Int)]) x)
            | 6 => some (rBlk g7 28 #[.int .i64 xs0, .slice Y1 k1 l1, .slice Y2 k2 l2, .slice Y3 k3 l3, .int .i64 (xk : Int)])
            | 7 => some (rBook (.agg #[.int .i64 as0, .slice E1 u1 v1, .slice E2 u2 v2, .slice E3 u3 v3, .int .i64 at0]) ab)
            | 8 => some (rBlk g10 28 #[.int .i64 as0, .slice E1 u1 v1, .slice E2 u2 v2, .slice E3 u3 v3, .int .i64 at0])
            | 9 => some (rBook (.agg #[.int .i64 xs0, .slice F1 r1 q1, .slice F2 r2 q2, .slice F3 r3 q3, .int .i64 (xk : Int)]) x)
            | 10 => some (rBlk g12 28 #[.int .i64 xs0, .slice F1 r1 q1, .slice F2 r2 q2, .slice F3 r3 q3, .int .i64 (xk : Int)])
            | _ => none)
          () ?_ ?_ ?_
        · intro D hD
          refine ((Sn.of_st HS8.out).quiet ((Below.refl _ _).drew)).congr fun i => ?_
          match i with
          | 0 => rfl
          | 1 => rfl
          | 2 => rfl
          | 3 => rfl
          | 4 => rfl
          | 5 => rfl
          | 6 => rfl
          | 7 => rfl
          | 8 => rfl
          | 9 => rfl
          | 10 => rfl
          | q + 11 => rfl
        · refine StepAll.cons (fun D s wx hR (hDi : D 0 = false) hd hsh a' hs K hK => ?_) ?_
          · have e5 := hs.old 5 (u := .pointer (some ⟨g5, 0, none⟩)) (by kernel_rfl) rfl
            clear hs
            have kb : Blk wx (g5) 28 #[.int .i64 xs0, .slice X1 i1 j1, .slice X2 i2 j2, .slice X3 i3 j3, .int .i64 (xk : Int)] := hR.blk 4 rfl
            have c0 : wx.cell? ⟨g5, 0, none⟩ = some (.int .i64 xs0) := kb.cell 0
            have c1 : wx.cell? ⟨g5, 1, none⟩ = some (.slice X1 i1 j1) := kb.cell 1
            have c2 : wx.cell? ⟨g5, 2, none⟩ = some (.slice X2 i2 j2) := kb.cell 2
            have c3 : wx.cell? ⟨g5, 3, none⟩ = some (.slice X3 i3 j3) := kb.cell 3
            have c4 : wx.cell? ⟨g5, 4, none⟩ = some (.int .i64 (xk : Int)) := kb.cell 4
            go_simp
            exact hK s wx (fun _ _ => rfl) hR
          refine StepAll.cons (fun D s wx hR (hDi : D 1 = false) hd hsh a' hs K hK => ?_) ?_
          · have e79 := hs.at_ 0 79 (u := .agg #[.int .i64 xs0, .slice X1 i1 j1, .slice X2 i2 j2, .slice X3 i3 j3, .int .i64 (xk : Int)]) rfl (hd ⟨0, .data⟩ (by simp) rfl) (by kernel_rfl) (by kernel_rfl) rfl
            have g79 := getQ e79
            clear hs
            go_simp
            refine (bookValid_impl _ x _ (hR.rdB 3 rfl)).mono ?_
            rw [HXOK.out]
            rintro e2 w2 ⟨rfl, hb2⟩
            exact hK s w2 (fun _ _ => rfl) (hR.quiet hb2)
          refine StepAll.cons (fun D s wx hR (hDi : D 2 = false) hd hsh a' hs K hK => ?_) ?_
          · have e80 := hs.at_ 1 80 (u := .bool true) rfl (hd ⟨1, .data⟩ (by simp) rfl) (by kernel_rfl) (by kernel_rfl) rfl
            clear hs
            go_simp
            exact hK s wx (fun _ _ => rfl) hR
          refine StepAll.consG (fun D s wx hR (hDi : D 3 = false) hd hsh a' hs K hK => ?_) ?_
          · have eg := hs.at_ 2 81 (u := .bool true) rfl (hd ⟨2, .guard⟩ (by simp) rfl) (by kernel_rfl) (by kernel_rfl) rfl
            rw [if_pos (by rw [hs.wants (j := 2) (t := 81) rfl rfl eg (by kernel_rfl)]; rfl)]
            have e5 := hs.old 5 (u := .pointer (some ⟨g5, 0, none⟩)) (by kernel_rfl) rfl
            clear hs
            go_simp
            exact hK s wx (fun _ _ => rfl) hR
          refine StepAll.consG (fun D s wx hR (hDi : D 4 = false) hd hsh a' hs K hK => ?_) ?_
          · have eg := hs.at_ 2 81 (u := .bool true) rfl (hd ⟨2, .guard⟩ (by simp) rfl) (by kernel_rfl) (by kernel_rfl) rfl
            rw [if_pos (by rw [hs.wants (j := 2) (t := 81) rfl rfl eg (by kernel_rfl)]; rfl)]
            have e82 := hs.at_ 3 82 (u := .pointer (some ⟨g5, 0, none⟩)) rfl (hd ⟨3, .data⟩ (by simp) rfl) (by kernel_rfl) (by kernel_rfl) rfl
            clear hs
            have kb : Blk wx (g5) 28 #[.int .i64 xs0, .slice X1 i1 j1, .slice X2 i2 j2, .slice X3 i3 j3, .int .i64 (xk : Int)] := hR.blk 4 rfl
            have c0 : wx.cell? ⟨g5, 0, none⟩ = some (.int .i64 xs0) := kb.cell 0
            have c1 : wx.cell? ⟨g5, 1, none⟩ = some (.slice X1 i1 j1) := kb.cell 1
            have c2 : wx.cell? ⟨g5, 2, none⟩ = some (.slice X2 i2 j2) := kb.cell 2
            go_simp
            exact hK s wx (fun _ _ => rfl) hR
          refine StepAll.consG (fun D s wx hR (hDi : D 5 = false) hd hsh a' hs K hK => ?_) ?_
          · have eg := hs.at_ 2 81 (u := .bool true) rfl (hd ⟨2, .guard⟩ (by simp) rfl) (by kernel_rfl) (by kernel_rfl) rfl
            rw [if_pos (by rw [hs.wants (j := 2) (t := 81) rfl rfl eg (by kernel_rfl)]; rfl)]
            have e3 := hs.old 3 (u := .pointer (some ⟨g3, 0, none⟩)) (by kernel_rfl) rfl
            clear hs
            go_simp
            exact hK s wx (fun _ _ => rfl) hR
          refine StepAll.consG (fun D s wx hR (hDi : D 6 = false) hd hsh a' hs K hK => ?_) ?_
          · have eg := hs.at_ 2 81 (u := .bool true) rfl (hd ⟨2, .guard⟩ (by simp) rfl) (by kernel_rfl) (by kernel_rfl) rfl
            rw [if_pos (by rw [hs.wants (j := 2) (t := 81) rfl rfl eg (by kernel_rfl)]; rfl)]
            have e84 := hs.at_ 5 84 (u := .pointer (some ⟨g3, 0, none⟩)) rfl (hd ⟨5, .data⟩ (by simp) rfl) (by kernel_rfl) (by kernel_rfl) rfl
            clear hs
            have kb : Blk wx (g3) 28 #[.int .i64 os, .slice B1 m1 d1, .slice B2 m2 d2, .slice B3 m3 d3, .int .i64 st] := hR.blk 2 rfl
            have c0 : wx.cell? ⟨g3, 0, none⟩ = some (.int .i64 os) := kb.cell 0
            have c1 : wx.cell? ⟨g3, 1, none⟩ = some (.slice B1 m1 d1) := kb.cell 1
            have c2 : wx.cell? ⟨g3, 2, none⟩ = some (.slice B2 m2 d2) := kb.cell 2
            go_simp
            exact hK s wx (fun _ _ => rfl) hR
          refine StepAll.consG (fun D s wx hR (hDi : D 7 = false) hd hsh a' hs K hK => ?_) ?_
          · have eg := hs.at_ 2 81 (u := .bool true) rfl (hd ⟨2, .guard⟩ (by simp) rfl) (by kernel_rfl) (by kernel_rfl) rfl
            rw [if_pos (by rw [hs.wants (j := 2) (t := 81) rfl rfl eg (by kernel_rfl)]; rfl)]
            have e83 := hs.at_ 4 83 (u := .agg #[.int .i64 xs0, .slice X1 i1 j1, .slice X2 i2 j2]) rfl (hd ⟨4, .data⟩ (by simp) rfl) (by kernel_rfl) (by kernel_rfl) rfl
            have e85 := hs.at_ 6 85 (u := .agg #[.int .i64 os, .slice B1 m1 d1, .slice B2 m2 d2]) rfl (hd ⟨6, .data⟩ (by simp) rfl) (by kernel_rfl) (by kernel_rfl) rfl
            have g83 := getQ e83
            have g85 := getQ e85
            clear hs
            go_simp
            refine (sameTask_any _ x.order _ b.order _ ((hR.rdB 3 rfl).order) ((hR.rdB 0 rfl).order)).mono ?_
            rw [decide_eq_true HOE.out]
            rintro e2 w2 ⟨rfl, hb2⟩
            exact hK s w2 (fun _ _ => rfl) (hR.quiet hb2)
          refine StepAll.cons (fun D s wx hR (hDi : D 8 = false) hd hsh a' hs K hK => ?_) ?_
          · have e81 := hs.at_ 2 81 (u := .bool true) rfl (hd ⟨2, .data⟩ (by simp) rfl) (by kernel_rfl) (by kernel_rfl) rfl
            have e86 := hs.at_ 7 86 (u := .bool true) rfl (hd ⟨7, .data⟩ (by simp) rfl) (by kernel_rfl) (by kernel_rfl) rfl
            clear hs
            go_simp
            exact hK s wx (fun _ _ => rfl) hR
          refine StepAll.cons (fun D s wx hR (hDi : D 9 = false) hd hsh a' hs K hK => ?_) ?_
          · have e87 := hs.at_ 8 87 (u := .bool true) rfl (hd ⟨8, .data⟩ (by simp) rfl) (by kernel_rfl) (by kernel_rfl) rfl
            clear hs
            go_simp
            exact hK s wx (fun _ _ => rfl) hR
          refine StepAll.consG (fun D s wx hR (hDi : D 10 = false) hd hsh a' hs K hK => ?_) ?_
          · have eg := hs.at_ 9 88 (u := .bool true) rfl (hd ⟨9, .guard⟩ (by simp) rfl) (by kernel_rfl) (by kernel_rfl) rfl
            rw [if_pos (by rw [hs.wants (j := 9) (t := 88) rfl rfl eg (by kernel_rfl)]; rfl)]
            have e12 := hs.old 12 (u := .pointer (some ⟨g12, 0, none⟩)) (by kernel_rfl) rfl
            clear hs
            have kb : Blk wx (g12) 28 #[.int .i64 xs0, .slice F1 r1 q1, .slice F2 r2 q2, .slice F3 r3 q3, .int .i64 (xk : Int)] := hR.blk 10 rfl
            have c0 : wx.cell? ⟨g12, 0, none⟩ = some (.int .i64 xs0) := kb.cell 0
            have c1 : wx.cell? ⟨g12, 1, none⟩ = some (.slice F1 r1 q1) := kb.cell 1
            have c2 : wx.cell? ⟨g12, 2, none⟩ = some (.slice F2 r2 q2) := kb.cell 2
            have c3 : wx.cell? ⟨g12, 3, none⟩ = some (.slice F3 r3 q3) := kb.cell 3
            have c4 : wx.cell? ⟨g12, 4, none⟩ = some (.int .i64 (xk : Int)) := kb.cell 4
            go_simp
            exact hK s wx (fun _ _ => rfl) hR
          refine StepAll.consG (fun D s wx hR (hDi : D 11 = false) hd hsh a' hs K hK => ?_) ?_
          · have eg := hs.at_ 9 88 (u := .bool true) rfl (hd ⟨9, .guard⟩ (by simp) rfl) (by kernel_rfl) (by kernel_rfl) rfl
            rw [if_pos (by rw [hs.wants (j := 9) (t := 88) rfl rfl eg (by kernel_rfl)]; rfl)]
            have e5 := hs.old 5 (u := .pointer (some ⟨g5, 0, none⟩)) (by kernel_rfl) rfl
            clear hs
            have kb : Blk wx (g5) 28 #[.int .i64 xs0, .slice X1 i1 j1, .slice X2 i2 j2, .slice X3 i3 j3, .int .i64 (xk : Int)] := hR.blk 4 rfl
            have c0 : wx.cell? ⟨g5, 0, none⟩ = some (.int .i64 xs0) := kb.cell 0
            have c1 : wx.cell? ⟨g5, 1, none⟩ = some (.slice X1 i1 j1) := kb.cell 1
            have c2 : wx.cell? ⟨g5, 2, none⟩ = some (.slice X2 i2 j2) := kb.cell 2
            have c3 : wx.cell? ⟨g5, 3, none⟩ = some (.slice X3 i3 j3) := kb.cell 3
            have c4 : wx.cell? ⟨g5, 4, none⟩ = some (.int .i64 (xk : Int)) := kb.cell 4
            go_simp
            exact hK s wx (fun _ _ => rfl) hR
          refine StepAll.consG (fun D s wx hR (hDi : D 12 = false) hd hsh a' hs K hK => ?_) ?_
          · have eg := hs.at_ 9 88 (u := .bool true) rfl (hd ⟨9, .guard⟩ (by simp) rfl) (by kernel_rfl) (by kernel_rfl) rfl
            rw [if_pos (by rw [hs.wants (j := 9) (t := 88) rfl rfl eg (by kernel_rfl)]; rfl)]
            have e89 := hs.at_ 10 89 (u := .agg #[.int .i64 xs0, .slice F1 r1 q1, .slice F2 r2 q2, .slice F3 r3 q3, .int .i64 (xk : Int)]) rfl (hd ⟨10, .data⟩ (by simp) rfl) (by kernel_rfl) (by kernel_rfl) rfl
            have e90 := hs.at_ 11 90 (u := .agg #[.int .i64 xs0, .slice X1 i1 j1, .slice X2 i2 j2, .slice X3 i3 j3, .int .i64 (xk : Int)]) rfl (hd ⟨11, .data⟩ (by simp) rfl) (by kernel_rfl) (by kernel_rfl) rfl
            have g89 := getQ e89
            have g90 := getQ e90
            clear hs
            go_simp
            refine (sameBook_any _ x _ x _ (hR.rdB 9 rfl) (hR.rdB 3 rfl)).mono ?_
            rw [decide_eq_true rfl]
            rintro e2 w2 ⟨rfl, hb2⟩
            exact hK s w2 (fun _ _ => rfl) (hR.quiet hb2)
          refine StepAll.cons (fun D s wx hR (hDi : D 13 = false) hd hsh a' hs K hK => ?_) ?_
          · have e88 := hs.at_ 9 88 (u := .bool true) rfl (hd ⟨9, .data⟩ (by simp) rfl) (by kernel_rfl) (by kernel_rfl) rfl
            have e91 := hs.at_ 12 91 (u := .bool true) rfl (hd ⟨12, .data⟩ (by simp) rfl) (by kernel_rfl) (by kernel_rfl) rfl
            clear hs
            go_simp
            exact hK s wx (fun _ _ => rfl) hR
          refine StepAll.cons (fun D s wx hR (hDi : D 14 = false) hd hsh a' hs K hK => ?_) ?_
          · have e92 := hs.at_ 13 92 (u := .bool true) rfl (hd ⟨13, .data⟩ (by simp) rfl) (by kernel_rfl) (by kernel_rfl) rfl
            clear hs
            go_simp
            exact hK s wx (fun _ _ => rfl) hR
          refine StepAll.consG (fun D s wx hR (hDi : D 15 = false) hd hsh a' hs K hK => ?_) ?_
          · have eg := hs.at_ 14 93 (u := .bool true) rfl (hd ⟨14, .guard⟩ (by simp) rfl) (by kernel_rfl) (by kernel_rfl) rfl
            rw [if_pos (by rw [hs.wants (j := 14) (t := 93) rfl rfl eg (by kernel_rfl)]; rfl)]
            have e11 := hs.old 11 (u := .int .i64 (pn : Nat)) (by kernel_rfl) rfl
            clear hs
            go_simp
            exact hK s wx (fun _ _ => rfl) hR
          refine StepAll.consG (fun D s wx hR (hDi : D 16 = false) hd hsh a' hs K hK => ?_) ?_
          · have eg := hs.at_ 14 93 (u := .bool true) rfl (hd ⟨14, .guard⟩ (by simp) rfl) (by kernel_rfl) (by kernel_rfl) rfl
            rw [if_pos (by rw [hs.wants (j := 14) (t := 93) rfl rfl eg (by kernel_rfl)]; rfl)]
            have e13 := hs.old 13 (u := .int .i64 (qn : Nat)) (by kernel_rfl) rfl
            clear hs
            go_simp
            exact hK s wx (fun _ _ => rfl) hR
          refine StepAll.consG (fun D s wx hR (hDi : D 17 = false) hd hsh a' hs K hK => ?_) ?_
          · have eg := hs.at_ 14 93 (u := .bool true) rfl (hd ⟨14, .guard⟩ (by simp) rfl) (by kernel_rfl) (by kernel_rfl) rfl
            rw [if_pos (by rw [hs.wants (j := 14) (t := 93) rfl rfl eg (by kernel_rfl)]; rfl)]
            have e94 := hs.at_ 15 94 (u := .int .i64 (pn : Nat)) rfl (hd ⟨15, .data⟩ (by simp) rfl) (by kernel_rfl) (by kernel_rfl) rfl
            have e95 := hs.at_ 16 95 (u := .int .i64 (qn : Nat)) rfl (hd ⟨16, .data⟩ (by simp) rfl) (by kernel_rfl) (by kernel_rfl) rfl
            clear hs
            have hpq := HPQ.out
            have hpq' := HPQ2.out
            go_simp
            exact hK s wx (fun _ _ => rfl) hR
          refine StepAll.consG (fun D s wx hR (hDi : D 18 = false) hd hsh a' hs K hK => ?_) ?_
          · have eg := hs.at_ 14 93 (u := .bool true) rfl (hd ⟨14, .guard⟩ (by simp) rfl) (by kernel_rfl) (by kernel_rfl) rfl
            rw [if_pos (by rw [hs.wants (j := 14) (t := 93) rfl rfl eg (by kernel_rfl)]; rfl)]
            have e6 := hs.old 6 (u := .int .i64 (xn : Nat)) (by kernel_rfl) rfl
            clear hs
            go_simp
            exact hK s wx (fun _ _ => rfl) hR
          refine StepAll.consG (fun D s wx hR (hDi : D 19 = false) hd hsh a' hs K hK => ?_) ?_
          · have eg := hs.at_ 14 93 (u := .bool true) rfl (hd ⟨14, .guard⟩ (by simp) rfl) (by kernel_rfl) (by kernel_rfl) rfl
            rw [if_pos (by rw [hs.wants (j := 14) (t := 93) rfl rfl eg (by kernel_rfl)]; rfl)]
            have e96 := hs.at_ 17 96 (u := .int .i64 (xn : Nat)) rfl (hd ⟨17, .data⟩ (by simp) rfl) (by kernel_rfl) (by kernel_rfl) rfl
            have e97 := hs.at_ 18 97 (u := .int .i64 (xn : Nat)) rfl (hd ⟨18, .data⟩ (by simp) rfl) (by kernel_rfl) (by kernel_rfl) rfl
            clear hs
            go_simp
            exact hK s wx (fun _ _ => rfl) hR
          refine StepAll.cons (fun D s wx hR (hDi : D 20 = false) hd hsh a' hs K hK => ?_) ?_
          · have e93 := hs.at_ 14 93 (u := .bool true) rfl (hd ⟨14, .data⟩ (by simp) rfl) (by kernel_rfl) (by kernel_rfl) rfl
            have e98 := hs.at_ 19 98 (u := .bool true) rfl (hd ⟨19, .data⟩ (by simp) rfl) (by kernel_rfl) (by kernel_rfl) rfl
            clear hs
            go_simp
            exact hK s wx (fun _ _ => rfl) hR
          refine StepAll.cons (fun D s wx hR (hDi : D 21 = false) hd hsh a' hs K hK => ?_) ?_
          · have e99 := hs.at_ 20 99 (u := .bool true) rfl (hd ⟨20, .data⟩ (by simp) rfl) (by kernel_rfl) (by kernel_rfl) rfl
            clear hs
            go_simp
            exact hK s wx (fun _ _ => rfl) hR
          refine StepAll.consG (fun D s wx hR (hDi : D 22 = false) hd hsh a' hs K hK => ?_) ?_
          · have eg := hs.at_ 21 100 (u := .bool true) rfl (hd ⟨21, .guard⟩ (by simp) rfl) (by kernel_rfl) (by kernel_rfl) rfl
            rw [if_pos (by rw [hs.wants (j := 21) (t := 100) rfl rfl eg (by kernel_rfl)]; rfl)]
            have e3 := hs.old 3 (u := .pointer (some ⟨g3, 0, none⟩)) (by kernel_rfl) rfl
            clear hs
            go_simp
            exact hK s wx (fun _ _ => rfl) hR
          refine StepAll.consG (fun D s wx hR (hDi : D 23 = false) hd hsh a' hs K hK => ?_) ?_
          · have eg := hs.at_ 21 100 (u := .bool true) rfl (hd ⟨21, .guard⟩ (by simp) rfl) (by kernel_rfl) (by kernel_rfl) rfl
            rw [if_pos (by rw [hs.wants (j := 21) (t := 100) rfl rfl eg (by kernel_rfl)]; rfl)]
            have e101 := hs.at_ 22 101 (u := .pointer (some ⟨g3, 0, none⟩)) rfl (hd ⟨22, .data⟩ (by simp) rfl) (by kernel_rfl) (by kernel_rfl) rfl
            clear hs
            have kb : Blk wx (g3) 28 #[.int .i64 os, .slice B1 m1 d1, .slice B2 m2 d2, .slice B3 m3 d3, .int .i64 st] := hR.blk 2 rfl
            have c0 : wx.cell? ⟨g3, 0, none⟩ = some (.int .i64 os) := kb.cell 0
            have c1 : wx.cell? ⟨g3, 1, none⟩ = some (.slice B1 m1 d1) := kb.cell 1
            have c2 : wx.cell? ⟨g3, 2, none⟩ = some (.slice B2 m2 d2) := kb.cell 2
            go_simp
            exact hK s wx (fun _ _ => rfl) hR
          refine StepAll.consG (fun D s wx hR (hDi : D 24 = false) hd hsh a' hs K hK => ?_) ?_
          · have eg := hs.at_ 21 100 (u := .bool true) rfl (hd ⟨21, .guard⟩ (by simp) rfl) (by kernel_rfl) (by kernel_rfl) rfl
            rw [if_pos (by rw [hs.wants (j := 21) (t := 100) rfl rfl eg (by kernel_rfl)]; rfl)]
            have e102 := hs.at_ 23 102 (u := .agg #[.int .i64 os, .slice B1 m1 d1, .slice B2 m2 d2]) rfl (hd ⟨23, .data⟩ (by simp) rfl) (by kernel_rfl) (by kernel_rfl) rfl
            have g102 := getQ e102
            clear hs
            go_simp
            refine (reached_impl _ b.order _ ((hR.rdB 0 rfl).order)).mono ?_
            rw [HRN.out]
            rintro e2 w2 ⟨rfl, hb2⟩
            exact hK s w2 (fun _ _ => rfl) (hR.quiet hb2)
          refine StepAll.consG (fun D s wx hR (hDi : D 25 = false) hd hsh a' hs K hK => ?_) ?_
          · have eg := hs.at_ 21 100 (u := .bool true) rfl (hd ⟨21, .guard⟩ (by simp) rfl) (by kernel_rfl) (by kernel_rfl) rfl
            rw [if_pos (by rw [hs.wants (j := 21) (t := 100) rfl rfl eg (by kernel_rfl)]; rfl)]
            have e5 := hs.old 5 (u := .pointer (some ⟨g5, 0, none⟩)) (by kernel_rfl) rfl
            clear hs
            go_simp
            exact hK s wx (fun _ _ => rfl) hR
          refine StepAll.consG (fun D s wx hR (hDi : D 26 = false) hd hsh a' hs K hK => ?_) ?_
          · have eg := hs.at_ 21 100 (u := .bool true) rfl (hd ⟨21, .guard⟩ (by simp) rfl) (by kernel_rfl) (by kernel_rfl) rfl
            rw [if_pos (by rw [hs.wants (j := 21) (t := 100) rfl rfl eg (by kernel_rfl)]; rfl)]
            have e104 := hs.at_ 25 104 (u := .pointer (some ⟨g5, 4, none⟩)) rfl (hd ⟨25, .data⟩ (by simp) rfl) (by kernel_rfl) (by kernel_rfl) rfl
            clear hs
            have kb : Blk wx (g5) 28 #[.int .i64 xs0, .slice X1 i1 j1, .slice X2 i2 j2, .slice X3 i3 j3, .int .i64 (xk : Int)] := hR.blk 4 rfl
            have c0 : wx.cell? ⟨g5, 4, none⟩ = some (.int .i64 (xk : Int)) := kb.cell 4
            go_simp
            exact hK s wx (fun _ _ => rfl) hR
          refine StepAll.consG (fun D s wx hR (hDi : D 27 = false) hd hsh a' hs K hK => ?_) ?_
          · have eg := hs.at_ 21 100 (u := .bool true) rfl (hd ⟨21, .guard⟩ (by simp) rfl) (by kernel_rfl) (by kernel_rfl) rfl
            rw [if_pos (by rw [hs.wants (j := 21) (t := 100) rfl rfl eg (by kernel_rfl)]; rfl)]
            have e103 := hs.at_ 24 103 (u := .int .i64 (rn : Nat)) rfl (hd ⟨24, .data⟩ (by simp) rfl) (by kernel_rfl) (by kernel_rfl) rfl
            have e105 := hs.at_ 26 105 (u := .int .i64 (xk : Int)) rfl (hd ⟨26, .data⟩ (by simp) rfl) (by kernel_rfl) (by kernel_rfl) rfl
            clear hs
            have hk1 := HK1.out
            have hk2 := HK2.out
            go_simp
            exact hK s wx (fun _ _ => rfl) hR
          refine StepAll.consG (fun D s wx hR (hDi : D 28 = false) hd hsh a' hs K hK => ?_) ?_
          · have eg := hs.at_ 21 100 (u := .bool true) rfl (hd ⟨21, .guard⟩ (by simp) rfl) (by kernel_rfl) (by kernel_rfl) rfl
            rw [if_pos (by rw [hs.wants (j := 21) (t := 100) rfl rfl eg (by kernel_rfl)]; rfl)]
            have e106 := hs.at_ 27 106 (u := .int .i64 ((rn : Int) / 2 ^ xk)) rfl (hd ⟨27, .data⟩ (by simp) rfl) (by kernel_rfl) (by kernel_rfl) rfl
            clear hs
            have hk3 := HK3.out
            go_simp
            exact hK s wx (fun _ _ => rfl) hR
          refine StepAll.consG (fun D s wx hR (hDi : D 29 = false) hd hsh a' hs K hK => ?_) ?_
          · have eg := hs.at_ 21 100 (u := .bool true) rfl (hd ⟨21, .guard⟩ (by simp) rfl) (by kernel_rfl) (by kernel_rfl) rfl
            rw [if_pos (by rw [hs.wants (j := 21) (t := 100) rfl rfl eg (by kernel_rfl)]; rfl)]
            have e107 := hs.at_ 28 107 (u := .int .i64 1) rfl (hd ⟨28, .data⟩ (by simp) rfl) (by kernel_rfl) (by kernel_rfl) rfl
            clear hs
            go_simp
            exact hK s wx (fun _ _ => rfl) hR
          refine StepAll.cons (fun D s wx hR (hDi : D 30 = false) hd hsh a' hs K hK => ?_) ?_
          · have e100 := hs.at_ 21 100 (u := .bool true) rfl (hd ⟨21, .data⟩ (by simp) rfl) (by kernel_rfl) (by kernel_rfl) rfl
            have e108 := hs.at_ 29 108 (u := .bool true) rfl (hd ⟨29, .data⟩ (by simp) rfl) (by kernel_rfl) (by kernel_rfl) rfl
            clear hs
            go_simp
            exact hK s wx (fun _ _ => rfl) hR
          refine StepAll.cons (fun D s wx hR (hDi : D 31 = false) hd hsh a' hs K hK => ?_) ?_
          · have e109 := hs.at_ 30 109 (u := .bool true) rfl (hd ⟨30, .data⟩ (by simp) rfl) (by kernel_rfl) (by kernel_rfl) rfl
            clear hs
            go_simp
            exact hK s wx (fun _ _ => rfl) hR
          exact StepAll.nil
        · intro D s wx hR hD
          simp only [putA, Act.put, List.setIfInBounds_toArray, List.set_cons_zero, List.set_cons_succ]
          have HSZ := Lib.hid (hR.to_st (L := [rBook (.agg #[.int .i64 os, .slice B1 m1 d1, .slice B2 m2 d2, .slice B3 m3 d3, .int .i64 st]) b]) [0] (by decide) rfl).below
          clear hR hD
          go_wp2
          go_ret
          exact ⟨rfl, HSZ.out⟩
end Go.Proofs.Ytkebgldeahklmaa
