/- The walk of FnReadJournal. Printed by gen_lawrn.py. -/
import Derived.Test.YtkmcengmglgdeaaGreatDoorSLawJU
import Derived.Test.YtkmcengmglgdeaaGreatDoorSJourP
import Derived.Test.YtkmcengmglgdeaaGreatDoorSRunB
import Derived.Test.YtkmcengmglgdeaaGreatDoorSActCut
import Derived.Test.YtkmcengmglgdeaaGreatDoorSDrawBR
import Derived.Test.YtkmcengmglgdeaaGreatDoorSGraph
namespace Go.Proofs.YtkmcengmglgdeaaGreatDoor
set_option linter.unusedVariables false
set_option linter.unusedSimpArgs false
open Go.ChangeShapes Go.WideShapes Go.ChangeAt Go.RowKit

theorem RdA.act {w : World} {B b o n c i : Nat} {aa : List ActD} {a : ActD} (h : RdA w B (some ⟨b, o, none⟩) n c aa) (hi : i < n) (ha : aa[i]? = some a) : w.cell? ⟨b, o + i * 2, none⟩ = some (.int .i64 a.kind) ∧ w.cell? ⟨b, o + i * 2 + 1, none⟩ = some (.int .i64 a.number) := by
 obtain ⟨b', off, a', e, hb, h1, h2, h3⟩ := h.get hi
 cases e
 rw [ha] at h1
 cases h1
 exact ⟨h2, h3⟩
theorem cutA (A : Option Addr) (n c h : Nat) (hh : h ≤ c) : ∀ w, (Instr.slice 56 (.slice A n c) none (some (.int .i64 (h : Int))) none).run Tryz.prog w = .ok (.slice A h c) w := fun w => by
 rw [run_slice_h w 56 A n c (by kernel_rfl) .i64 h (by omega) (by omega), sizeAct]
 have h0 : (if c = 0 then A else A.map (·.add (0 * 2))) = A := by rw [Nat.zero_mul]; split; rfl; exact map_add0 A
 simp only [Result.andThen, sliced, h0, Int.toNat_natCast, Nat.sub_zero]
theorem rJ_len' (s : List UInt8) : (rJ s).length ≤ s.length := by
 have := (readJ_le [] s).2
 unfold rJ; rw [dL_len]; exact this
set_option maxRecDepth 100000 in
set_option maxHeartbeats 2000000 in
theorem FnReadJournal_walk (A : Option Addr) (n c : Nat) (xs : List Int) (A' : Option Addr) (n' c' : Nat) (xs' : List Int) (w : World) (h : RdI .u8 w w.heap.size A n c xs) (h' : RdI .u8 w w.heap.size A' n' c' xs') :
  Calls Tryz.prog 6 #[.slice A n c, .slice A' n' c'] w fun e w' => e = .returned (.bool true) ∧ Below w.heap.size w w' := by
 have hcap := h.cap
 have hmax := h.capMax
 have hcap' := h'.cap
 have hmax' := h'.capMax
 unfold maxLen at hmax hmax'
 have H := Lib.hid h
 have H' := Lib.hid h'
 clear h h'
 by_cases hn : n ≤ 1048576
 case neg =>
  have hnI : (1048576 : Int) < (n : Int) := by omega
  go_enter Tryz.func6, Tryz.ntmps6
  go_wp2
  go_ret
  exact ⟨rfl, Below.refl _ _⟩
 have hnI : ¬ (1048576 : Int) < (n : Int) := by omega
 by_cases hn' : n' ≤ 1048576
 case neg =>
  have hnI' : (1048576 : Int) < (n' : Int) := by omega
  go_enter Tryz.func6, Tryz.ntmps6
  go_wp2
  go_ret
  exact ⟨rfl, Below.refl _ _⟩
 have hnI' : ¬ (1048576 : Int) < (n' : Int) := by omega
 go_enter Tryz.func6, Tryz.ntmps6
 go_wp2_with fail
 refine (drawReadJournal A n c xs _ H.out).mono ?_
 rintro e w1 ⟨q, rfl, hq, hb1⟩
 have HS1 : Hid (St w w1 []) := Lib.hid ((St.refl w).quiet hb1)
 obtain ⟨sL, hsL⟩ : ∃ l, q.data.toList = l := ⟨_, rfl⟩
 have HSL := Bx.mk hsL
 have hqL : q.size = sL.length := by rw [← hsL]; exact Lib.size_eq q
 have HQL := Bx.mk hqL
 obtain ⟨aa, haa⟩ : ∃ aa, rJ sL = aa := ⟨_, rfl⟩
 obtain ⟨Nn, hNn⟩ : ∃ N, rN sL = N := ⟨_, rfl⟩
 obtain ⟨m, hm⟩ : ∃ m, aa.length = m := ⟨_, rfl⟩
 have HAA := Bx.mk haa
 have HNN := Bx.mk hNn
 have HM := Bx.mk hm
 have hm100 : m ≤ 100 := by rw [← hm, ← haa]; have := rJ_len' sL; omega
 have hNq : Nn ≤ q.size := by rw [← hNn, hqL]; exact rN_le sL
 clear hb1 hsL hqL haa hNn hm
 go_wp2_with fail
 refine (readJournal_impl q _ (by omega)).mono ?_
 rw [HSL.out, HAA.out, HNN.out]
 rintro e w2 ⟨v2, rfl, s2⟩
 obtain ⟨A1, c1, hv, -⟩ := s2.rdA 0 rfl
 rw [HM.out] at hv
 subst hv
 have HS2 : Hid (St w w2 [rActs (.slice A1 m c1) aa]) := Lib.hid (HS1.out.call s2)
 clear s2 HS1
 go_wp2_with fail
 refine (readJournal_spec q _ (by omega)).mono ?_
 rw [HSL.out, HAA.out, HNN.out]
 rintro e w3 ⟨v3, rfl, s3⟩
 obtain ⟨A2, c2, hv, -⟩ := s3.rdA 0 rfl
 rw [HM.out] at hv
 subst hv
 have HS3 : Hid (St w w3 [rActs (.slice A1 m c1) aa, rActs (.slice A2 m c2) aa]) := Lib.hid (HS2.out.call s3)
 clear s3 HS2
 go_wp2_with fail
 refine (sameActs_same A1 m c1 aa A2 m c2 _ (HS3.out.rdA' 0 rfl) (HS3.out.rdA' 1 rfl)).mono ?_
 rintro e w4 ⟨rfl, hb4⟩
 have HS4 : Hid (St w w4 [rActs (.slice A1 m c1) aa]) := Lib.hid ((HS3.out.quiet hb4).pick [0] (by decide) rfl rfl)
 have hc1 : m ≤ c1 := (HS4.out.rdA' 0 rfl).2.cap
 have hc1m := (HS4.out.rdA' 0 rfl).2.capMax
 unfold maxLen at hc1m
 clear hb4 HS3
 go_wp2
 go_loopw [10] (fun i wr => ∃ k : Nat, k ≤ q.size + 1 ∧ i = .int .i64 k ∧ St w wr [rActs (.slice A1 m c1) aa]) (fun i _ => q.size + 1 - (intOf i).toNat)
 case atStart => exact ⟨0, by omega, rfl, HS4.out⟩
 case round =>
  clear HS4
  obtain ⟨k, hk, rfl, S⟩ := hrel
  have HS := Lib.hid S
  clear S
  by_cases hkq : k ≤ q.size
  case pos =>
   have HAk := cutS q k hkq
   obtain ⟨qk, hqk⟩ : ∃ x, q.extract 0 k = x := ⟨_, rfl⟩
   have hql : qk.data.toList = sL.take k := by rw [← hqk, ← HSL.out, Lib.extract_data]; simp
   have hqs : qk.size ≤ 1099511627776 := by rw [Lib.size_eq, hql, List.length_take, ← HQL.out]; omega
   rw [hqk] at HAk
   obtain ⟨ax, hax⟩ : ∃ x, rJ (sL.take k) = x := ⟨_, rfl⟩
   obtain ⟨Nx, hNx⟩ : ∃ x, rN (sL.take k) = x := ⟨_, rfl⟩
   obtain ⟨lx, hlx⟩ : ∃ x, ax.length = x := ⟨_, rfl⟩
   have hlm : lx ≤ m := by rw [← hlx, ← hax, ← HM.out, ← HAA.out]; exact rJ_pre_len sL k
   have hpre : aa.take lx = ax := by rw [← hlx, ← hax, ← HAA.out]; exact (rJ_pre sL k).symm
   have hNk : Nx ≤ k := by rw [← hNx]; exact rN_pre sL k
   have HQ := Bx.mk hql
   have HAX := Bx.mk hax
   have HNX := Bx.mk hNx
   have HLX := Bx.mk hlx
   have HPRE := Bx.mk hpre
   have HTK := cutA A1 m c1 lx (by omega)
   have hgt : ¬ (m : Int) < (lx : Int) := by omega
   have hmin : min (lx : Int) (m : Int) = (lx : Int) := by omega
   have hgt2 : ¬ (k : Int) < (Nx : Int) := by omega
   clear hqk hql hax hNx hlx hpre
   go_wp2_with fail
   refine (readJournal_impl qk _ hqs).mono ?_
   rw [HQ.out, HAX.out, HNX.out]
   rintro e w5 ⟨v5, rfl, s5⟩
   obtain ⟨A3, c3, hv, -⟩ := s5.rdA 0 rfl
   rw [HLX.out] at hv
   subst hv
   have HS5 : Hid (St w w5 [rActs (.slice A1 m c1) aa, rActs (.slice A3 lx c3) ax]) := Lib.hid (HS.out.call s5)
   clear s5 HS
   go_wp2_with fail
   refine (sameActs_same A3 lx c3 ax A1 lx c1 _ (HS5.out.rdA' 1 rfl) (by have := (HS5.out.rdA' 0 rfl).take hlm; rw [HPRE.out] at this; exact this)).mono ?_
   rintro e w6 ⟨rfl, hb6⟩
   have HS6 : Hid (St w w6 [rActs (.slice A1 m c1) aa]) := Lib.hid ((HS5.out.quiet hb6).pick [0] (by decide) rfl rfl)
   clear hb6 HS5
   go_wp2
   go_roundw
   case rel => exact ⟨k + 1, by omega, by go_num, HS6.out⟩
   case measure => simp [intOf]; omega
  have hkI : ¬ (k : Int) ≤ (q.size : Int) := by omega
  clear hk hkq
  go_wp2_with fail
  refine (drawBookRun A' n' c' xs' _ (H'.out.up HS.out.below)).mono ?_
  rintro e w7 ⟨v7, b, v8, ab8, rfl, -, -, s7⟩
  obtain ⟨G, gn, gc, K', kn, kc, D', dn, dc, hv⟩ := s7.formB 0 rfl
  obtain ⟨A8, c8, hv8, -⟩ := s7.rdA 1 rfl
  obtain ⟨os, hos⟩ : ∃ x, b.order.start = x := ⟨_, rfl⟩
  obtain ⟨st, hst⟩ : ∃ x, b.state = x := ⟨_, rfl⟩
  have HOS := Bx.mk hos
  have HSTT := Bx.mk hst
  rw [hos, hst] at hv
  subst hv hv8
  have HS7 := Lib.hid ((HS.out.call s7).pick [0, 1] (by decide) rfl rfl)
  clear s7 HS hos hst
  obtain ⟨wb, hwb⟩ : ∃ x, w7.alloc (.cells #[.int .i64 os, .slice G gn gc, .slice K' kn kc, .slice D' dn dc, .int .i64 st] 28) = x := ⟨_, rfl⟩
  obtain ⟨g13, hg13⟩ : ∃ g, w7.heap.size = g := ⟨_, rfl⟩
  have HS8 : Hid (St w wb [rActs (.slice A1 m c1) aa, rBook (.agg #[.int .i64 os, .slice G gn gc, .slice K' kn kc, .slice D' dn dc, .int .i64 st]) b, rBlk g13 28 #[.int .i64 os, .slice G gn gc, .slice K' kn kc, .slice D' dn dc, .int .i64 st]]) := Lib.hid (by rw [← hwb, ← hg13]; exact HS7.out.alloc _ _)
  have HSW := Lib.hid HS8.out.below
  have HAB := Lib.hid (HS8.out.rdA' 0 rfl)
  have HBB := Lib.hid (HS8.out.rdB 1 rfl)
  have HG13 := Bx.mk (HS8.out.blk 2 rfl).lt
  have HBC : Bx (∀ j, wb.cell? ⟨g13, j, none⟩ = (#[.int .i64 os, .slice G gn gc, .slice K' kn kc, .slice D' dn dc, .int .i64 st] : Array Value)[j]?) := Bx.mk (HS8.out.cells 2 rfl)
  obtain ⟨g15, hg15⟩ : ∃ g, wb.heap.size = g := ⟨_, rfl⟩
  have HS9 : Hid (St wb (wb.alloc (.cells #[.int .i64 os, .slice G gn gc, .slice K' kn kc, .slice D' dn dc, .int .i64 st] 28)) [rBookOr wb (.agg #[.int .i64 os, .slice G gn gc, .slice K' kn kc, .slice D' dn dc, .int .i64 st]) b, rBlk g15 28 #[.int .i64 os, .slice G gn gc, .slice K' kn kc, .slice D' dn dc, .int .i64 st]]) := Lib.hid (by
   have := (St.oldBook (Below.refl wb.heap.size wb) HBB.out).alloc #[.int .i64 os, .slice G gn gc, .slice K' kn kc, .slice D' dn dc, .int .i64 st] 28
   rw [hg15] at this
   exact this)
  have HWF : Bx (∀ a ∈ aa, (Lit.int .i64 a.number).wf = true) := Bx.mk fun a ha => wf_i64_mk (by rw [← HAA.out] at ha; have := rJ_mem ha; omega)
  obtain ⟨bo, hbo⟩ : ∃ y, bookOk b = y := ⟨_, rfl⟩
  have HBO := Bx.mk hbo
  obtain ⟨jt, hjt⟩ : ∃ y : ByteArray, (⟨(jT aa).toArray⟩ : ByteArray) = y := ⟨_, rfl⟩
  have HJT := Bx.mk hjt
  have HCUT : Bx (∀ w : World, (Instr.slice 9 (.string q) none (some (.int .i64 (Nn : Int))) none).run Tryz.prog w = .ok (.string jt) w) := Bx.mk (by
   have h1 := cutS q Nn hNq
   have h2 : q.extract 0 Nn = jt := by
    rw [← hjt, ← HAA.out, jT_rJ, HNN.out]
    refine ba_eq ?_
    rw [Lib.extract_data, HSL.out]; simp
   rw [h2] at h1
   exact h1)
  have HLE : Bx ((Nn : Int) ≤ (q.size : Int)) := Bx.mk (by omega)
  clear hbo hjt HS7 HS8
  have q13 := HBC.out
  go_wp2
  try rw [hg15]
  clear hwb hg13 hg15 q13
  go_loopw [16] (fun i wr => ∃ (k : Nat) (x : BookD) (xs0 : Int) (X1 : Option Addr) (i1 j1 : Nat) (X2 : Option Addr) (i2 j2 : Nat) (X3 : Option Addr) (i3 j3 : Nat) (xt : Int), k ≤ m ∧ i = .int .i64 k ∧ Bx ((runB b (aa.take k)).1 = x) ∧ St wb wr [rBookOr wb (.agg #[.int .i64 xs0, .slice X1 i1 j1, .slice X2 i2 j2, .slice X3 i3 j3, .int .i64 xt]) x, rBlk g15 28 #[.int .i64 xs0, .slice X1 i1 j1, .slice X2 i2 j2, .slice X3 i3 j3, .int .i64 xt]]) (fun i _ => m - (intOf i).toNat)
  case atStart => exact ⟨0, b, os, G, gn, gc, K', kn, kc, D', dn, dc, st, by omega, rfl, Bx.mk rfl, HS9.out⟩
  case round =>
   clear HS9
   obtain ⟨k, x, xs0, X1, i1, j1, X2, i2, j2, X3, i3, j3, xt, hk, rfl, HXR, S⟩ := hrel
   have HS := Lib.hid S
   clear S
   by_cases hlt : k < m
   case neg =>
    obtain rfl : m = k := by omega
    have hkI : ¬ (m : Int) < (m : Int) := by omega
    cases bo with
    | false =>
     have qb : ∀ j, _ := fun j => (bcells HS.out.below g13 j HG13.out).trans (HBC.out j)
     obtain ⟨x9, hx9⟩ : ∃ y, (bookRun b aa).1 = y := ⟨_, rfl⟩
     obtain ⟨n9, hn9⟩ : ∃ y, (bookRun b aa).2 = y := ⟨_, rfl⟩
     have HX9 := Bx.mk hx9
     have HN9 := Bx.mk hn9
     obtain ⟨es0, hes⟩ : ∃ y, x9.order.start = y := ⟨_, rfl⟩
     obtain ⟨et, het⟩ : ∃ y, x9.state = y := ⟨_, rfl⟩
     have HES := Bx.mk hes
     have HET := Bx.mk het
     clear hx9 hn9 hes het
     go_wp2_with fail
     refine (bookRun_impl _ b _ _ _ aa _ (HBB.out.up HS.out.below) (HAB.out.up HS.out.below) HWF.out).mono ?_
     rw [HX9.out, HN9.out]
     rintro e wf ⟨vf, rfl, sf⟩
     obtain ⟨E1, e1, f1, E2, e2, f2, E3, e3, f3, hv⟩ := sf.formB 0 rfl
     rw [HES.out, HET.out] at hv
     subst hv
     obtain ⟨g19, hg19⟩ : ∃ y, wf.heap.size = y := ⟨_, rfl⟩
     obtain ⟨wz, hwz⟩ : ∃ y, wf.alloc (.cells #[.int .i64 es0, .slice E1 e1 f1, .slice E2 e2 f2, .slice E3 e3 f3, .int .i64 et] 28) = y := ⟨_, rfl⟩
     have HSZ : Hid (St wb wz [rBookOr wb (.agg #[.int .i64 xs0, .slice X1 i1 j1, .slice X2 i2 j2, .slice X3 i3 j3, .int .i64 xt]) x, rBlk g15 28 #[.int .i64 xs0, .slice X1 i1 j1, .slice X2 i2 j2, .slice X3 i3 j3, .int .i64 xt], rBook (.agg #[.int .i64 es0, .slice E1 e1 f1, .slice E2 e2 f2, .slice E3 e3 f3, .int .i64 et]) x9, rBlk g19 28 #[.int .i64 es0, .slice E1 e1 f1, .slice E2 e2 f2, .slice E3 e3 f3, .int .i64 et]]) := Lib.hid (by rw [← hwz, ← hg19]; exact (HS.out.call sf).alloc _ _)
     clear sf qb
     go_upto_region 24 with (fail)
     try rw [hg19]
     try rw [hwz]
     have k13 : ∀ j, wz.cell? ⟨g13, j, none⟩ = _ := fun j => (bcells HSZ.out.below g13 j HG13.out).trans (HBC.out j)
     have HB0 := Bx.mk (k13 0)
     have HB1 := Bx.mk (k13 1)
     have HB2 := Bx.mk (k13 2)
     have HB3 := Bx.mk (k13 3)
     have HB4 := Bx.mk (k13 4)
     have HG13z : Bx (g13 < wz.heap.size) := Bx.mk (Nat.lt_of_lt_of_le HG13.out HSZ.out.below.size)
     have HRJ := Lib.hid (HAB.out.up HSZ.out.below)
     have HRB := Lib.hid (HBB.out.up HSZ.out.below)
     clear k13 hwz hg19
     refine wp_reg (σ := Unit) (by kernel_rfl) (by kernel_rfl) (by kernel_rfl)
      (fun _ i => match i with
       | 0 => .int .i64 (Nn : Nat)
       | 1 => .string q
       | 2 => .int .i64 (q.size : Nat)
       | 3 => .bool true
       | 4 => .bool true
       | 5 => .slice A1 m c1
       | 6 => .string jt
       | 7 => .string q
       | 8 => .int .i64 (Nn : Nat)
       | 9 => .string jt
       | 10 => .bool true
       | 11 => .bool true
       | 12 => .bool true
       | 13 => .agg #[.int .i64 os, .slice G gn gc, .slice K' kn kc, .slice D' dn dc, .int .i64 st]
       | 14 => .bool false
       | 15 => .bool true
       | 16 => .bool true
       | 20 => .bool true
       | 21 => .bool true
       | 25 => .bool true
       | 26 => .bool true
       | 27 => .bool true
       | 28 => .bool true
       | 29 => .bool true
       | 30 => .bool true
       | _ => undef)
      (fun D _ wx => Below wz.heap.size wz wx)
      () ?_ ?_ ?_
     ·intro D hD
      exact (Below.refl _ _).drew
     ·refine StepAll.cons (fun D s wx hR (hDi : D 0 = false) hd hsh a' hs K hK => ?_) ?_
      ·have e7 := hs.old 7 (u := .int .i64 (Nn : Nat)) (by kernel_rfl) rfl
       clear hs
       go_simp
       exact hK () wx (fun _ _ => rfl) hR
      refine StepAll.cons (fun D s wx hR (hDi : D 1 = false) hd hsh a' hs K hK => ?_) ?_
      ·have e5 := hs.old 5 (u := .string q) (by kernel_rfl) rfl
       clear hs
       go_simp
       exact hK () wx (fun _ _ => rfl) hR
      refine StepAll.cons (fun D s wx hR (hDi : D 2 = false) hd hsh a' hs K hK => ?_) ?_
      ·have e125 := hs.g 1 125 (.string q) (hd ⟨1, .data⟩ (by simp) rfl)
       have g125 := getQ e125
       clear hs
       go_simp
       exact hK () wx (fun _ _ => rfl) hR
      refine StepAll.cons (fun D s wx hR (hDi : D 3 = false) hd hsh a' hs K hK => ?_) ?_
      ·have e124 := hs.g 0 124 (.int .i64 (Nn : Nat)) (hd ⟨0, .data⟩ (by simp) rfl)
       have e126 := hs.g 2 126 (.int .i64 (q.size : Nat)) (hd ⟨2, .data⟩ (by simp) rfl)
       clear hs
       have hle := HLE.out
       go_simp
       exact hK () wx (fun _ _ => rfl) hR
      refine StepAll.cons (fun D s wx hR (hDi : D 4 = false) hd hsh a' hs K hK => ?_) ?_
      ·have e127 := hs.g 3 127 (.bool true) (hd ⟨3, .data⟩ (by simp) rfl)
       clear hs
       go_simp
       exact hK () wx (fun _ _ => rfl) hR
      refine StepAll.consG (fun D s wx hR (hDi : D 5 = false) hd hsh a' hs K hK => ?_) ?_
      ·have eg := hs.g 4 128 (.bool true) (hd ⟨4, .guard⟩ (by simp) rfl)
       rw [if_pos (by rw [hs.wants (j := 4) (t := 128) rfl rfl eg (by kernel_rfl)]; rfl)]
       have e6 := hs.old 6 (u := .slice A1 m c1) (by kernel_rfl) rfl
       clear hs
       go_simp
       exact hK () wx (fun _ _ => rfl) hR
      refine StepAll.consG (fun D s wx hR (hDi : D 6 = false) hd hsh a' hs K hK => ?_) ?_
      ·have eg := hs.g 4 128 (.bool true) (hd ⟨4, .guard⟩ (by simp) rfl)
       rw [if_pos (by rw [hs.wants (j := 4) (t := 128) rfl rfl eg (by kernel_rfl)]; rfl)]
       have e129 := hs.g 5 129 (.slice A1 m c1) (hd ⟨5, .data⟩ (by simp) rfl)
       have g129 := getQ e129
       clear hs
       go_simp
       refine (journalText_impl A1 m c1 aa _ (HRJ.out.up hR) (by omega)).mono ?_
       rw [HJT.out]
       rintro e2 w2 ⟨rfl, hb2⟩
       exact hK () w2 (fun _ _ => rfl) (hR.trans (hb2.mono hR.size))
      refine StepAll.consG (fun D s wx hR (hDi : D 7 = false) hd hsh a' hs K hK => ?_) ?_
      ·have eg := hs.g 4 128 (.bool true) (hd ⟨4, .guard⟩ (by simp) rfl)
       rw [if_pos (by rw [hs.wants (j := 4) (t := 128) rfl rfl eg (by kernel_rfl)]; rfl)]
       have e5 := hs.old 5 (u := .string q) (by kernel_rfl) rfl
       clear hs
       go_simp
       exact hK () wx (fun _ _ => rfl) hR
      refine StepAll.consG (fun D s wx hR (hDi : D 8 = false) hd hsh a' hs K hK => ?_) ?_
      ·have eg := hs.g 4 128 (.bool true) (hd ⟨4, .guard⟩ (by simp) rfl)
       rw [if_pos (by rw [hs.wants (j := 4) (t := 128) rfl rfl eg (by kernel_rfl)]; rfl)]
       have e7 := hs.old 7 (u := .int .i64 (Nn : Nat)) (by kernel_rfl) rfl
       clear hs
       go_simp
       exact hK () wx (fun _ _ => rfl) hR
      refine StepAll.consG (fun D s wx hR (hDi : D 9 = false) hd hsh a' hs K hK => ?_) ?_
      ·have eg := hs.g 4 128 (.bool true) (hd ⟨4, .guard⟩ (by simp) rfl)
       rw [if_pos (by rw [hs.wants (j := 4) (t := 128) rfl rfl eg (by kernel_rfl)]; rfl)]
       have e131 := hs.g 7 131 (.string q) (hd ⟨7, .data⟩ (by simp) rfl)
       have e132 := hs.g 8 132 (.int .i64 (Nn : Nat)) (hd ⟨8, .data⟩ (by simp) rfl)
       clear hs
       have hcut := HCUT.out
       go_simp
       exact hK () wx (fun _ _ => rfl) hR
      refine StepAll.consG (fun D s wx hR (hDi : D 10 = false) hd hsh a' hs K hK => ?_) ?_
      ·have eg := hs.g 4 128 (.bool true) (hd ⟨4, .guard⟩ (by simp) rfl)
       rw [if_pos (by rw [hs.wants (j := 4) (t := 128) rfl rfl eg (by kernel_rfl)]; rfl)]
       have e130 := hs.g 6 130 (.string jt) (hd ⟨6, .data⟩ (by simp) rfl)
       have e133 := hs.g 9 133 (.string jt) (hd ⟨9, .data⟩ (by simp) rfl)
       clear hs
       go_simp
       exact hK () wx (fun _ _ => rfl) hR
      refine StepAll.cons (fun D s wx hR (hDi : D 11 = false) hd hsh a' hs K hK => ?_) ?_
      ·have e128 := hs.g 4 128 (.bool true) (hd ⟨4, .data⟩ (by simp) rfl)
       have e134 := hs.g 10 134 (.bool true) (hd ⟨10, .data⟩ (by simp) rfl)
       clear hs
       go_simp
       exact hK () wx (fun _ _ => rfl) hR
      refine StepAll.cons (fun D s wx hR (hDi : D 12 = false) hd hsh a' hs K hK => ?_) ?_
      ·have e135 := hs.g 11 135 (.bool true) (hd ⟨11, .data⟩ (by simp) rfl)
       clear hs
       go_simp
       exact hK () wx (fun _ _ => rfl) hR
      refine StepAll.consG (fun D s wx hR (hDi : D 13 = false) hd hsh a' hs K hK => ?_) ?_
      ·have eg := hs.g 12 136 (.bool true) (hd ⟨12, .guard⟩ (by simp) rfl)
       rw [if_pos (by rw [hs.wants (j := 12) (t := 136) rfl rfl eg (by kernel_rfl)]; rfl)]
       have e13 := hs.old 13 (u := .pointer (some ⟨g13, 0, none⟩)) (by kernel_rfl) rfl
       clear hs
       have c0 : wx.cell? ⟨g13, 0, none⟩ = some (.int .i64 os) := (bcells hR _ _ HG13z.out).trans HB0.out
       have c1 : wx.cell? ⟨g13, 1, none⟩ = some (.slice G gn gc) := (bcells hR _ _ HG13z.out).trans HB1.out
       have c2 : wx.cell? ⟨g13, 2, none⟩ = some (.slice K' kn kc) := (bcells hR _ _ HG13z.out).trans HB2.out
       have c3 : wx.cell? ⟨g13, 3, none⟩ = some (.slice D' dn dc) := (bcells hR _ _ HG13z.out).trans HB3.out
       have c4 : wx.cell? ⟨g13, 4, none⟩ = some (.int .i64 st) := (bcells hR _ _ HG13z.out).trans HB4.out
       go_simp
       exact hK () wx (fun _ _ => rfl) hR
      refine StepAll.consG (fun D s wx hR (hDi : D 14 = false) hd hsh a' hs K hK => ?_) ?_
      ·have eg := hs.g 12 136 (.bool true) (hd ⟨12, .guard⟩ (by simp) rfl)
       rw [if_pos (by rw [hs.wants (j := 12) (t := 136) rfl rfl eg (by kernel_rfl)]; rfl)]
       have e137 := hs.g 13 137 (.agg #[.int .i64 os, .slice G gn gc, .slice K' kn kc, .slice D' dn dc, .int .i64 st]) (hd ⟨13, .data⟩ (by simp) rfl)
       have g137 := getQ e137
       clear hs
       go_simp
       refine (bookValid_spec _ b _ (HRB.out.up hR)).mono ?_
       rw [HBO.out]
       rintro e2 w2 ⟨rfl, hb2⟩
       exact hK () w2 (fun _ _ => rfl) (hR.trans (hb2.mono hR.size))
      refine StepAll.consG (fun D s wx hR (hDi : D 15 = false) hd hsh a' hs K hK => ?_) ?_
      ·have eg := hs.g 12 136 (.bool true) (hd ⟨12, .guard⟩ (by simp) rfl)
       rw [if_pos (by rw [hs.wants (j := 12) (t := 136) rfl rfl eg (by kernel_rfl)]; rfl)]
       have e138 := hs.g 14 138 (.bool false) (hd ⟨14, .data⟩ (by simp) rfl)
       clear hs
       go_simp
       exact hK () wx (fun _ _ => rfl) hR
      refine StepAll.consG (fun D s wx hR (hDi : D 16 = false) hd hsh a' hs K hK => ?_) ?_
      ·have eg := hs.g 12 136 (.bool true) (hd ⟨12, .guard⟩ (by simp) rfl)
       rw [if_pos (by rw [hs.wants (j := 12) (t := 136) rfl rfl eg (by kernel_rfl)]; rfl)]
       have e139 := hs.g 15 139 (.bool true) (hd ⟨15, .data⟩ (by simp) rfl)
       clear hs
       go_simp
       exact hK () wx (fun _ _ => rfl) hR
      refine StepAll.skip 16 140 true ?_
      refine StepAll.skip 16 140 true ?_
      refine StepAll.skip 16 140 true ?_
      refine StepAll.consG (fun D s wx hR (hDi : D 20 = false) hd hsh a' hs K hK => ?_) ?_
      ·have eg := hs.g 12 136 (.bool true) (hd ⟨12, .guard⟩ (by simp) rfl)
       rw [if_pos (by rw [hs.wants (j := 12) (t := 136) rfl rfl eg (by kernel_rfl)]; rfl)]
       have e140 := hs.g 16 140 (.bool true) (hd ⟨16, .data⟩ (by simp) rfl)
       have e143 := hs.g 19 143 (undef) (hd ⟨19, .data⟩ (by simp) rfl)
       clear hs
       go_simp
       exact hK () wx (fun _ _ => rfl) hR
      refine StepAll.consG (fun D s wx hR (hDi : D 21 = false) hd hsh a' hs K hK => ?_) ?_
      ·have eg := hs.g 12 136 (.bool true) (hd ⟨12, .guard⟩ (by simp) rfl)
       rw [if_pos (by rw [hs.wants (j := 12) (t := 136) rfl rfl eg (by kernel_rfl)]; rfl)]
       have e144 := hs.g 20 144 (.bool true) (hd ⟨20, .data⟩ (by simp) rfl)
       clear hs
       go_simp
       exact hK () wx (fun _ _ => rfl) hR
      refine StepAll.skip 21 145 true ?_
      refine StepAll.skip 21 145 true ?_
      refine StepAll.skip 21 145 true ?_
      refine StepAll.consG (fun D s wx hR (hDi : D 25 = false) hd hsh a' hs K hK => ?_) ?_
      ·have eg := hs.g 12 136 (.bool true) (hd ⟨12, .guard⟩ (by simp) rfl)
       rw [if_pos (by rw [hs.wants (j := 12) (t := 136) rfl rfl eg (by kernel_rfl)]; rfl)]
       have e145 := hs.g 21 145 (.bool true) (hd ⟨21, .data⟩ (by simp) rfl)
       have e148 := hs.g 24 148 (undef) (hd ⟨24, .data⟩ (by simp) rfl)
       clear hs
       go_simp
       exact hK () wx (fun _ _ => rfl) hR
      refine StepAll.cons (fun D s wx hR (hDi : D 26 = false) hd hsh a' hs K hK => ?_) ?_
      ·have e136 := hs.g 12 136 (.bool true) (hd ⟨12, .data⟩ (by simp) rfl)
       have e149 := hs.g 25 149 (.bool true) (hd ⟨25, .data⟩ (by simp) rfl)
       clear hs
       go_simp
       exact hK () wx (fun _ _ => rfl) hR
      refine StepAll.cons (fun D s wx hR (hDi : D 27 = false) hd hsh a' hs K hK => ?_) ?_
      ·have e150 := hs.g 26 150 (.bool true) (hd ⟨26, .data⟩ (by simp) rfl)
       clear hs
       go_simp
       exact hK () wx (fun _ _ => rfl) hR
      refine StepAll.consG (fun D s wx hR (hDi : D 28 = false) hd hsh a' hs K hK => ?_) ?_
      ·have eg := hs.g 27 151 (.bool true) (hd ⟨27, .guard⟩ (by simp) rfl)
       rw [if_pos (by rw [hs.wants (j := 27) (t := 151) rfl rfl eg (by kernel_rfl)]; rfl)]
       clear hs
       go_simp
       refine (alive_any _).mono ?_
       rintro e2 w2 ⟨rfl, hb2⟩
       exact hK () w2 (fun _ _ => rfl) (hR.trans (hb2.mono hR.size))
      refine StepAll.cons (fun D s wx hR (hDi : D 29 = false) hd hsh a' hs K hK => ?_) ?_
      ·have e151 := hs.g 27 151 (.bool true) (hd ⟨27, .data⟩ (by simp) rfl)
       have e152 := hs.g 28 152 (.bool true) (hd ⟨28, .data⟩ (by simp) rfl)
       clear hs
       go_simp
       exact hK () wx (fun _ _ => rfl) hR
      refine StepAll.cons (fun D s wx hR (hDi : D 30 = false) hd hsh a' hs K hK => ?_) ?_
      ·have e153 := hs.g 29 153 (.bool true) (hd ⟨29, .data⟩ (by simp) rfl)
       clear hs
       go_simp
       exact hK () wx (fun _ _ => rfl) hR
      exact StepAll.nil
     ·intro D s wx hR hD
      simp only [putA, Act.put, List.setIfInBounds_toArray, List.set_cons_zero, List.set_cons_succ]
      have HSB := Lib.hid (HSZ.out.quiet hR)
      clear hR hD HSZ
      go_wp2
      go_ret
      exact ⟨rfl, HSW.out.trans (HSB.out.below.mono HSW.out.size)⟩
    | true =>
     by_cases h40 : m ≤ 40
     ·have hX9 : (bookRun b aa).1 = x := by
       have h1 : (runB b (aa.take m)).1 = x := HXR.out
       rw [List.take_of_length_le (by rw [HM.out]; exact Nat.le_refl _)] at h1
       unfold bookRun
       rw [HBO.out, HM.out, decide_eq_true h40]
       exact h1
      have HX9 := Bx.mk hX9
      have HM40 : Bx (¬ (40 : Int) < (m : Int)) := Bx.mk (by omega)
      clear hX9
      have qb : ∀ j, _ := fun j => (bcells HS.out.below g13 j HG13.out).trans (HBC.out j)
      obtain ⟨n9, hn9⟩ : ∃ y, (bookRun b aa).2 = y := ⟨_, rfl⟩
      have HN9 := Bx.mk hn9
      obtain ⟨es0, hes⟩ : ∃ y, x.order.start = y := ⟨_, rfl⟩
      obtain ⟨et, het⟩ : ∃ y, x.state = y := ⟨_, rfl⟩
      have HES := Bx.mk hes
      have HET := Bx.mk het
      clear hn9 hes het
      go_wp2_with fail
      refine (bookRun_impl _ b _ _ _ aa _ (HBB.out.up HS.out.below) (HAB.out.up HS.out.below) HWF.out).mono ?_
      rw [HX9.out, HN9.out]
      rintro e wf ⟨vf, rfl, sf⟩
      obtain ⟨E1, e1, f1, E2, e2, f2, E3, e3, f3, hv⟩ := sf.formB 0 rfl
      rw [HES.out, HET.out] at hv
      subst hv
      obtain ⟨g19, hg19⟩ : ∃ y, wf.heap.size = y := ⟨_, rfl⟩
      obtain ⟨wz, hwz⟩ : ∃ y, wf.alloc (.cells #[.int .i64 es0, .slice E1 e1 f1, .slice E2 e2 f2, .slice E3 e3 f3, .int .i64 et] 28) = y := ⟨_, rfl⟩
      have HSZ : Hid (St wb wz [rBookOr wb (.agg #[.int .i64 xs0, .slice X1 i1 j1, .slice X2 i2 j2, .slice X3 i3 j3, .int .i64 xt]) x, rBlk g15 28 #[.int .i64 xs0, .slice X1 i1 j1, .slice X2 i2 j2, .slice X3 i3 j3, .int .i64 xt], rBook (.agg #[.int .i64 es0, .slice E1 e1 f1, .slice E2 e2 f2, .slice E3 e3 f3, .int .i64 et]) x, rBlk g19 28 #[.int .i64 es0, .slice E1 e1 f1, .slice E2 e2 f2, .slice E3 e3 f3, .int .i64 et]]) := Lib.hid (by rw [← hwz, ← hg19]; exact (HS.out.call sf).alloc _ _)
      clear sf qb
      go_upto_region 24 with (fail)
      try rw [hg19]
      try rw [hwz]
      have k13 : ∀ j, wz.cell? ⟨g13, j, none⟩ = _ := fun j => (bcells HSZ.out.below g13 j HG13.out).trans (HBC.out j)
      have HB0 := Bx.mk (k13 0)
      have HB1 := Bx.mk (k13 1)
      have HB2 := Bx.mk (k13 2)
      have HB3 := Bx.mk (k13 3)
      have HB4 := Bx.mk (k13 4)
      have HG13z : Bx (g13 < wz.heap.size) := Bx.mk (Nat.lt_of_lt_of_le HG13.out HSZ.out.below.size)
      have HRJ := Lib.hid (HAB.out.up HSZ.out.below)
      have HRB := Lib.hid (HBB.out.up HSZ.out.below)
      have HRX := Lib.hid (HSZ.out.rdBO 0 rfl)
      have HRE := Lib.hid (HSZ.out.rdB 2 rfl)
      have k15 := HSZ.out.blk 1 rfl
      have k19 := HSZ.out.blk 3 rfl
      have HG15 := Bx.mk k15.lt
      have HG19 := Bx.mk k19.lt
      have HX0 := Bx.mk (k15.cell 0)
      have HX1 := Bx.mk (k15.cell 1)
      have HX2 := Bx.mk (k15.cell 2)
      have HX3 := Bx.mk (k15.cell 3)
      have HX4 := Bx.mk (k15.cell 4)
      have HE0 := Bx.mk (k19.cell 0)
      have HE1 := Bx.mk (k19.cell 1)
      have HE2 := Bx.mk (k19.cell 2)
      have HE3 := Bx.mk (k19.cell 3)
      have HE4 := Bx.mk (k19.cell 4)
      clear k15 k19
      clear k13 hwz hg19
      refine wp_reg (σ := Unit) (by kernel_rfl) (by kernel_rfl) (by kernel_rfl)
       (fun _ i => match i with
        | 0 => .int .i64 (Nn : Nat)
        | 1 => .string q
        | 2 => .int .i64 (q.size : Nat)
        | 3 => .bool true
        | 4 => .bool true
        | 5 => .slice A1 m c1
        | 6 => .string jt
        | 7 => .string q
        | 8 => .int .i64 (Nn : Nat)
        | 9 => .string jt
        | 10 => .bool true
        | 11 => .bool true
        | 12 => .bool true
        | 13 => .agg #[.int .i64 os, .slice G gn gc, .slice K' kn kc, .slice D' dn dc, .int .i64 st]
        | 14 => .bool true
        | 15 => .bool false
        | 16 => .bool false
        | 17 => .slice A1 m c1
        | 18 => .int .i64 (m : Nat)
        | 19 => .bool false
        | 20 => .bool false
        | 21 => .bool false
        | 22 => .agg #[.int .i64 xs0, .slice X1 i1 j1, .slice X2 i2 j2, .slice X3 i3 j3, .int .i64 xt]
        | 23 => .agg #[.int .i64 es0, .slice E1 e1 f1, .slice E2 e2 f2, .slice E3 e3 f3, .int .i64 et]
        | 24 => .bool true
        | 25 => .bool true
        | 26 => .bool true
        | 27 => .bool true
        | 28 => .bool true
        | 29 => .bool true
        | 30 => .bool true
        | _ => undef)
       (fun D _ wx => Below wz.heap.size wz wx)
       () ?_ ?_ ?_
      ·intro D hD
       exact (Below.refl _ _).drew
      ·refine StepAll.cons (fun D s wx hR (hDi : D 0 = false) hd hsh a' hs K hK => ?_) ?_
       ·have e7 := hs.old 7 (u := .int .i64 (Nn : Nat)) (by kernel_rfl) rfl
        clear hs
        go_simp
        exact hK () wx (fun _ _ => rfl) hR
       refine StepAll.cons (fun D s wx hR (hDi : D 1 = false) hd hsh a' hs K hK => ?_) ?_
       ·have e5 := hs.old 5 (u := .string q) (by kernel_rfl) rfl
        clear hs
        go_simp
        exact hK () wx (fun _ _ => rfl) hR
       refine StepAll.cons (fun D s wx hR (hDi : D 2 = false) hd hsh a' hs K hK => ?_) ?_
       ·have e125 := hs.g 1 125 (.string q) (hd ⟨1, .data⟩ (by simp) rfl)
        have g125 := getQ e125
        clear hs
        go_simp
        exact hK () wx (fun _ _ => rfl) hR
       refine StepAll.cons (fun D s wx hR (hDi : D 3 = false) hd hsh a' hs K hK => ?_) ?_
       ·have e124 := hs.g 0 124 (.int .i64 (Nn : Nat)) (hd ⟨0, .data⟩ (by simp) rfl)
        have e126 := hs.g 2 126 (.int .i64 (q.size : Nat)) (hd ⟨2, .data⟩ (by simp) rfl)
        clear hs
        have hle := HLE.out
        go_simp
        exact hK () wx (fun _ _ => rfl) hR
       refine StepAll.cons (fun D s wx hR (hDi : D 4 = false) hd hsh a' hs K hK => ?_) ?_
       ·have e127 := hs.g 3 127 (.bool true) (hd ⟨3, .data⟩ (by simp) rfl)
        clear hs
        go_simp
        exact hK () wx (fun _ _ => rfl) hR
       refine StepAll.consG (fun D s wx hR (hDi : D 5 = false) hd hsh a' hs K hK => ?_) ?_
       ·have eg := hs.g 4 128 (.bool true) (hd ⟨4, .guard⟩ (by simp) rfl)
        rw [if_pos (by rw [hs.wants (j := 4) (t := 128) rfl rfl eg (by kernel_rfl)]; rfl)]
        have e6 := hs.old 6 (u := .slice A1 m c1) (by kernel_rfl) rfl
        clear hs
        go_simp
        exact hK () wx (fun _ _ => rfl) hR
       refine StepAll.consG (fun D s wx hR (hDi : D 6 = false) hd hsh a' hs K hK => ?_) ?_
       ·have eg := hs.g 4 128 (.bool true) (hd ⟨4, .guard⟩ (by simp) rfl)
        rw [if_pos (by rw [hs.wants (j := 4) (t := 128) rfl rfl eg (by kernel_rfl)]; rfl)]
        have e129 := hs.g 5 129 (.slice A1 m c1) (hd ⟨5, .data⟩ (by simp) rfl)
        have g129 := getQ e129
        clear hs
        go_simp
        refine (journalText_impl A1 m c1 aa _ (HRJ.out.up hR) (by omega)).mono ?_
        rw [HJT.out]
        rintro e2 w2 ⟨rfl, hb2⟩
        exact hK () w2 (fun _ _ => rfl) (hR.trans (hb2.mono hR.size))
       refine StepAll.consG (fun D s wx hR (hDi : D 7 = false) hd hsh a' hs K hK => ?_) ?_
       ·have eg := hs.g 4 128 (.bool true) (hd ⟨4, .guard⟩ (by simp) rfl)
        rw [if_pos (by rw [hs.wants (j := 4) (t := 128) rfl rfl eg (by kernel_rfl)]; rfl)]
        have e5 := hs.old 5 (u := .string q) (by kernel_rfl) rfl
        clear hs
        go_simp
        exact hK () wx (fun _ _ => rfl) hR
       refine StepAll.consG (fun D s wx hR (hDi : D 8 = false) hd hsh a' hs K hK => ?_) ?_
       ·have eg := hs.g 4 128 (.bool true) (hd ⟨4, .guard⟩ (by simp) rfl)
        rw [if_pos (by rw [hs.wants (j := 4) (t := 128) rfl rfl eg (by kernel_rfl)]; rfl)]
        have e7 := hs.old 7 (u := .int .i64 (Nn : Nat)) (by kernel_rfl) rfl
        clear hs
        go_simp
        exact hK () wx (fun _ _ => rfl) hR
       refine StepAll.consG (fun D s wx hR (hDi : D 9 = false) hd hsh a' hs K hK => ?_) ?_
       ·have eg := hs.g 4 128 (.bool true) (hd ⟨4, .guard⟩ (by simp) rfl)
        rw [if_pos (by rw [hs.wants (j := 4) (t := 128) rfl rfl eg (by kernel_rfl)]; rfl)]
        have e131 := hs.g 7 131 (.string q) (hd ⟨7, .data⟩ (by simp) rfl)
        have e132 := hs.g 8 132 (.int .i64 (Nn : Nat)) (hd ⟨8, .data⟩ (by simp) rfl)
        clear hs
        have hcut := HCUT.out
        go_simp
        exact hK () wx (fun _ _ => rfl) hR
       refine StepAll.consG (fun D s wx hR (hDi : D 10 = false) hd hsh a' hs K hK => ?_) ?_
       ·have eg := hs.g 4 128 (.bool true) (hd ⟨4, .guard⟩ (by simp) rfl)
        rw [if_pos (by rw [hs.wants (j := 4) (t := 128) rfl rfl eg (by kernel_rfl)]; rfl)]
        have e130 := hs.g 6 130 (.string jt) (hd ⟨6, .data⟩ (by simp) rfl)
        have e133 := hs.g 9 133 (.string jt) (hd ⟨9, .data⟩ (by simp) rfl)
        clear hs
        go_simp
        exact hK () wx (fun _ _ => rfl) hR
       refine StepAll.cons (fun D s wx hR (hDi : D 11 = false) hd hsh a' hs K hK => ?_) ?_
       ·have e128 := hs.g 4 128 (.bool true) (hd ⟨4, .data⟩ (by simp) rfl)
        have e134 := hs.g 10 134 (.bool true) (hd ⟨10, .data⟩ (by simp) rfl)
        clear hs
        go_simp
        exact hK () wx (fun _ _ => rfl) hR
       refine StepAll.cons (fun D s wx hR (hDi : D 12 = false) hd hsh a' hs K hK => ?_) ?_
       ·have e135 := hs.g 11 135 (.bool true) (hd ⟨11, .data⟩ (by simp) rfl)
        clear hs
        go_simp
        exact hK () wx (fun _ _ => rfl) hR
       refine StepAll.consG (fun D s wx hR (hDi : D 13 = false) hd hsh a' hs K hK => ?_) ?_
       ·have eg := hs.g 12 136 (.bool true) (hd ⟨12, .guard⟩ (by simp) rfl)
        rw [if_pos (by rw [hs.wants (j := 12) (t := 136) rfl rfl eg (by kernel_rfl)]; rfl)]
        have e13 := hs.old 13 (u := .pointer (some ⟨g13, 0, none⟩)) (by kernel_rfl) rfl
        clear hs
        have c0 : wx.cell? ⟨g13, 0, none⟩ = some (.int .i64 os) := (bcells hR _ _ HG13z.out).trans HB0.out
        have c1 : wx.cell? ⟨g13, 1, none⟩ = some (.slice G gn gc) := (bcells hR _ _ HG13z.out).trans HB1.out
        have c2 : wx.cell? ⟨g13, 2, none⟩ = some (.slice K' kn kc) := (bcells hR _ _ HG13z.out).trans HB2.out
        have c3 : wx.cell? ⟨g13, 3, none⟩ = some (.slice D' dn dc) := (bcells hR _ _ HG13z.out).trans HB3.out
        have c4 : wx.cell? ⟨g13, 4, none⟩ = some (.int .i64 st) := (bcells hR _ _ HG13z.out).trans HB4.out
        go_simp
        exact hK () wx (fun _ _ => rfl) hR
       refine StepAll.consG (fun D s wx hR (hDi : D 14 = false) hd hsh a' hs K hK => ?_) ?_
       ·have eg := hs.g 12 136 (.bool true) (hd ⟨12, .guard⟩ (by simp) rfl)
        rw [if_pos (by rw [hs.wants (j := 12) (t := 136) rfl rfl eg (by kernel_rfl)]; rfl)]
        have e137 := hs.g 13 137 (.agg #[.int .i64 os, .slice G gn gc, .slice K' kn kc, .slice D' dn dc, .int .i64 st]) (hd ⟨13, .data⟩ (by simp) rfl)
        have g137 := getQ e137
        clear hs
        go_simp
        refine (bookValid_spec _ b _ (HRB.out.up hR)).mono ?_
        rw [HBO.out]
        rintro e2 w2 ⟨rfl, hb2⟩
        exact hK () w2 (fun _ _ => rfl) (hR.trans (hb2.mono hR.size))
       refine StepAll.consG (fun D s wx hR (hDi : D 15 = false) hd hsh a' hs K hK => ?_) ?_
       ·have eg := hs.g 12 136 (.bool true) (hd ⟨12, .guard⟩ (by simp) rfl)
        rw [if_pos (by rw [hs.wants (j := 12) (t := 136) rfl rfl eg (by kernel_rfl)]; rfl)]
        have e138 := hs.g 14 138 (.bool true) (hd ⟨14, .data⟩ (by simp) rfl)
        clear hs
        go_simp
        exact hK () wx (fun _ _ => rfl) hR
       refine StepAll.consG (fun D s wx hR (hDi : D 16 = false) hd hsh a' hs K hK => ?_) ?_
       ·have eg := hs.g 12 136 (.bool true) (hd ⟨12, .guard⟩ (by simp) rfl)
        rw [if_pos (by rw [hs.wants (j := 12) (t := 136) rfl rfl eg (by kernel_rfl)]; rfl)]
        have e139 := hs.g 15 139 (.bool false) (hd ⟨15, .data⟩ (by simp) rfl)
        clear hs
        go_simp
        exact hK () wx (fun _ _ => rfl) hR
       refine StepAll.consG (fun D s wx hR (hDi : D 17 = false) hd hsh a' hs K hK => ?_) ?_
       ·have eg := hs.g 16 140 (.bool false) (hd ⟨16, .guard⟩ (by simp) rfl)
        rw [if_pos (by rw [hs.wants (j := 16) (t := 140) rfl rfl eg (by kernel_rfl)]; rfl)]
        have e6 := hs.old 6 (u := .slice A1 m c1) (by kernel_rfl) rfl
        clear hs
        go_simp
        exact hK () wx (fun _ _ => rfl) hR
       refine StepAll.consG (fun D s wx hR (hDi : D 18 = false) hd hsh a' hs K hK => ?_) ?_
       ·have eg := hs.g 16 140 (.bool false) (hd ⟨16, .guard⟩ (by simp) rfl)
        rw [if_pos (by rw [hs.wants (j := 16) (t := 140) rfl rfl eg (by kernel_rfl)]; rfl)]
        have e141 := hs.g 17 141 (.slice A1 m c1) (hd ⟨17, .data⟩ (by simp) rfl)
        have g141 := getQ e141
        clear hs
        go_simp
        exact hK () wx (fun _ _ => rfl) hR
       refine StepAll.consG (fun D s wx hR (hDi : D 19 = false) hd hsh a' hs K hK => ?_) ?_
       ·have eg := hs.g 16 140 (.bool false) (hd ⟨16, .guard⟩ (by simp) rfl)
        rw [if_pos (by rw [hs.wants (j := 16) (t := 140) rfl rfl eg (by kernel_rfl)]; rfl)]
        have e142 := hs.g 18 142 (.int .i64 (m : Nat)) (hd ⟨18, .data⟩ (by simp) rfl)
        clear hs
        have hm40 : decide ((40 : Int) < (m : Int)) = false := decide_eq_false (by have h9 := HM40.out; omega)
        go_simp
        exact hK () wx (fun _ _ => rfl) hR
       refine StepAll.consG (fun D s wx hR (hDi : D 20 = false) hd hsh a' hs K hK => ?_) ?_
       ·have eg := hs.g 12 136 (.bool true) (hd ⟨12, .guard⟩ (by simp) rfl)
        rw [if_pos (by rw [hs.wants (j := 12) (t := 136) rfl rfl eg (by kernel_rfl)]; rfl)]
        have e140 := hs.g 16 140 (.bool false) (hd ⟨16, .data⟩ (by simp) rfl)
        have e143 := hs.g 19 143 (.bool false) (hd ⟨19, .data⟩ (by simp) rfl)
        clear hs
        go_simp
        exact hK () wx (fun _ _ => rfl) hR
       refine StepAll.consG (fun D s wx hR (hDi : D 21 = false) hd hsh a' hs K hK => ?_) ?_
       ·have eg := hs.g 12 136 (.bool true) (hd ⟨12, .guard⟩ (by simp) rfl)
        rw [if_pos (by rw [hs.wants (j := 12) (t := 136) rfl rfl eg (by kernel_rfl)]; rfl)]
        have e144 := hs.g 20 144 (.bool false) (hd ⟨20, .data⟩ (by simp) rfl)
        clear hs
        go_simp
        exact hK () wx (fun _ _ => rfl) hR
       refine StepAll.consG (fun D s wx hR (hDi : D 22 = false) hd hsh a' hs K hK => ?_) ?_
       ·have eg := hs.g 21 145 (.bool false) (hd ⟨21, .guard⟩ (by simp) rfl)
        rw [if_pos (by rw [hs.wants (j := 21) (t := 145) rfl rfl eg (by kernel_rfl)]; rfl)]
        have e15 := hs.old 15 (u := .pointer (some ⟨g15, 0, none⟩)) (by kernel_rfl) rfl
        clear hs
        have c0 : wx.cell? ⟨g15, 0, none⟩ = some (.int .i64 xs0) := (bcells hR _ _ HG15.out).trans HX0.out
        have c1 : wx.cell? ⟨g15, 1, none⟩ = some (.slice X1 i1 j1) := (bcells hR _ _ HG15.out).trans HX1.out
        have c2 : wx.cell? ⟨g15, 2, none⟩ = some (.slice X2 i2 j2) := (bcells hR _ _ HG15.out).trans HX2.out
        have c3 : wx.cell? ⟨g15, 3, none⟩ = some (.slice X3 i3 j3) := (bcells hR _ _ HG15.out).trans HX3.out
        have c4 : wx.cell? ⟨g15, 4, none⟩ = some (.int .i64 xt) := (bcells hR _ _ HG15.out).trans HX4.out
        go_simp
        exact hK () wx (fun _ _ => rfl) hR
       refine StepAll.consG (fun D s wx hR (hDi : D 23 = false) hd hsh a' hs K hK => ?_) ?_
       ·have eg := hs.g 21 145 (.bool false) (hd ⟨21, .guard⟩ (by simp) rfl)
        rw [if_pos (by rw [hs.wants (j := 21) (t := 145) rfl rfl eg (by kernel_rfl)]; rfl)]
        have e19 := hs.old 19 (u := .pointer (some ⟨g19, 0, none⟩)) (by kernel_rfl) rfl
        clear hs
        have c0 : wx.cell? ⟨g19, 0, none⟩ = some (.int .i64 es0) := (bcells hR _ _ HG19.out).trans HE0.out
        have c1 : wx.cell? ⟨g19, 1, none⟩ = some (.slice E1 e1 f1) := (bcells hR _ _ HG19.out).trans HE1.out
        have c2 : wx.cell? ⟨g19, 2, none⟩ = some (.slice E2 e2 f2) := (bcells hR _ _ HG19.out).trans HE2.out
        have c3 : wx.cell? ⟨g19, 3, none⟩ = some (.slice E3 e3 f3) := (bcells hR _ _ HG19.out).trans HE3.out
        have c4 : wx.cell? ⟨g19, 4, none⟩ = some (.int .i64 et) := (bcells hR _ _ HG19.out).trans HE4.out
        go_simp
        exact hK () wx (fun _ _ => rfl) hR
       refine StepAll.consG (fun D s wx hR (hDi : D 24 = false) hd hsh a' hs K hK => ?_) ?_
       ·have eg := hs.g 21 145 (.bool false) (hd ⟨21, .guard⟩ (by simp) rfl)
        rw [if_pos (by rw [hs.wants (j := 21) (t := 145) rfl rfl eg (by kernel_rfl)]; rfl)]
        have e146 := hs.g 22 146 (.agg #[.int .i64 xs0, .slice X1 i1 j1, .slice X2 i2 j2, .slice X3 i3 j3, .int .i64 xt]) (hd ⟨22, .data⟩ (by simp) rfl)
        have e147 := hs.g 23 147 (.agg #[.int .i64 es0, .slice E1 e1 f1, .slice E2 e2 f2, .slice E3 e3 f3, .int .i64 et]) (hd ⟨23, .data⟩ (by simp) rfl)
        have g146 := getQ e146
        have g147 := getQ e147
        clear hs
        go_simp
        refine (sameBook_any _ x _ x _ (HRX.out.up hR) (HRE.out.up hR)).mono ?_
        rw [decide_eq_true rfl]
        rintro e2 w2 ⟨rfl, hb2⟩
        exact hK () w2 (fun _ _ => rfl) (hR.trans (hb2.mono hR.size))
       refine StepAll.consG (fun D s wx hR (hDi : D 25 = false) hd hsh a' hs K hK => ?_) ?_
       ·have eg := hs.g 12 136 (.bool true) (hd ⟨12, .guard⟩ (by simp) rfl)
        rw [if_pos (by rw [hs.wants (j := 12) (t := 136) rfl rfl eg (by kernel_rfl)]; rfl)]
        have e145 := hs.g 21 145 (.bool false) (hd ⟨21, .data⟩ (by simp) rfl)
        have e148 := hs.g 24 148 (.bool true) (hd ⟨24, .data⟩ (by simp) rfl)
        clear hs
        go_simp
        exact hK () wx (fun _ _ => rfl) hR
       refine StepAll.cons (fun D s wx hR (hDi : D 26 = false) hd hsh a' hs K hK => ?_) ?_
       ·have e136 := hs.g 12 136 (.bool true) (hd ⟨12, .data⟩ (by simp) rfl)
        have e149 := hs.g 25 149 (.bool true) (hd ⟨25, .data⟩ (by simp) rfl)
        clear hs
        go_simp
        exact hK () wx (fun _ _ => rfl) hR
       refine StepAll.cons (fun D s wx hR (hDi : D 27 = false) hd hsh a' hs K hK => ?_) ?_
       ·have e150 := hs.g 26 150 (.bool true) (hd ⟨26, .data⟩ (by simp) rfl)
        clear hs
        go_simp
        exact hK () wx (fun _ _ => rfl) hR
       refine StepAll.consG (fun D s wx hR (hDi : D 28 = false) hd hsh a' hs K hK => ?_) ?_
       ·have eg := hs.g 27 151 (.bool true) (hd ⟨27, .guard⟩ (by simp) rfl)
        rw [if_pos (by rw [hs.wants (j := 27) (t := 151) rfl rfl eg (by kernel_rfl)]; rfl)]
        clear hs
        go_simp
        refine (alive_any _).mono ?_
        rintro e2 w2 ⟨rfl, hb2⟩
        exact hK () w2 (fun _ _ => rfl) (hR.trans (hb2.mono hR.size))
       refine StepAll.cons (fun D s wx hR (hDi : D 29 = false) hd hsh a' hs K hK => ?_) ?_
       ·have e151 := hs.g 27 151 (.bool true) (hd ⟨27, .data⟩ (by simp) rfl)
        have e152 := hs.g 28 152 (.bool true) (hd ⟨28, .data⟩ (by simp) rfl)
        clear hs
        go_simp
        exact hK () wx (fun _ _ => rfl) hR
       refine StepAll.cons (fun D s wx hR (hDi : D 30 = false) hd hsh a' hs K hK => ?_) ?_
       ·have e153 := hs.g 29 153 (.bool true) (hd ⟨29, .data⟩ (by simp) rfl)
        clear hs
        go_simp
        exact hK () wx (fun _ _ => rfl) hR
       exact StepAll.nil
      ·intro D s wx hR hD
       simp only [putA, Act.put, List.setIfInBounds_toArray, List.set_cons_zero, List.set_cons_succ]
       have HSB := Lib.hid (HSZ.out.quiet hR)
       clear hR hD HSZ
       go_wp2
       go_ret
       exact ⟨rfl, HSW.out.trans (HSB.out.below.mono HSW.out.size)⟩
     ·have HM40 : Bx ((40 : Int) < (m : Int)) := Bx.mk (by omega)
      have qb : ∀ j, _ := fun j => (bcells HS.out.below g13 j HG13.out).trans (HBC.out j)
      obtain ⟨x9, hx9⟩ : ∃ y, (bookRun b aa).1 = y := ⟨_, rfl⟩
      obtain ⟨n9, hn9⟩ : ∃ y, (bookRun b aa).2 = y := ⟨_, rfl⟩
      have HX9 := Bx.mk hx9
      have HN9 := Bx.mk hn9
      obtain ⟨es0, hes⟩ : ∃ y, x9.order.start = y := ⟨_, rfl⟩
      obtain ⟨et, het⟩ : ∃ y, x9.state = y := ⟨_, rfl⟩
      have HES := Bx.mk hes
      have HET := Bx.mk het
      clear hx9 hn9 hes het
      go_wp2_with fail
      refine (bookRun_impl _ b _ _ _ aa _ (HBB.out.up HS.out.below) (HAB.out.up HS.out.below) HWF.out).mono ?_
      rw [HX9.out, HN9.out]
      rintro e wf ⟨vf, rfl, sf⟩
      obtain ⟨E1, e1, f1, E2, e2, f2, E3, e3, f3, hv⟩ := sf.formB 0 rfl
      rw [HES.out, HET.out] at hv
      subst hv
      obtain ⟨g19, hg19⟩ : ∃ y, wf.heap.size = y := ⟨_, rfl⟩
      obtain ⟨wz, hwz⟩ : ∃ y, wf.alloc (.cells #[.int .i64 es0, .slice E1 e1 f1, .slice E2 e2 f2, .slice E3 e3 f3, .int .i64 et] 28) = y := ⟨_, rfl⟩
      have HSZ : Hid (St wb wz [rBookOr wb (.agg #[.int .i64 xs0, .slice X1 i1 j1, .slice X2 i2 j2, .slice X3 i3 j3, .int .i64 xt]) x, rBlk g15 28 #[.int .i64 xs0, .slice X1 i1 j1, .slice X2 i2 j2, .slice X3 i3 j3, .int .i64 xt], rBook (.agg #[.int .i64 es0, .slice E1 e1 f1, .slice E2 e2 f2, .slice E3 e3 f3, .int .i64 et]) x9, rBlk g19 28 #[.int .i64 es0, .slice E1 e1 f1, .slice E2 e2 f2, .slice E3 e3 f3, .int .i64 et]]) := Lib.hid (by rw [← hwz, ← hg19]; exact (HS.out.call sf).alloc _ _)
      clear sf qb
      go_upto_region 24 with (fail)
      try rw [hg19]
      try rw [hwz]
      have k13 : ∀ j, wz.cell? ⟨g13, j, none⟩ = _ := fun j => (bcells HSZ.out.below g13 j HG13.out).trans (HBC.out j)
      have HB0 := Bx.mk (k13 0)
      have HB1 := Bx.mk (k13 1)
      have HB2 := Bx.mk (k13 2)
      have HB3 := Bx.mk (k13 3)
      have HB4 := Bx.mk (k13 4)
      have HG13z : Bx (g13 < wz.heap.size) := Bx.mk (Nat.lt_of_lt_of_le HG13.out HSZ.out.below.size)
      have HRJ := Lib.hid (HAB.out.up HSZ.out.below)
      have HRB := Lib.hid (HBB.out.up HSZ.out.below)
      clear k13 hwz hg19
      refine wp_reg (σ := Unit) (by kernel_rfl) (by kernel_rfl) (by kernel_rfl)
       (fun _ i => match i with
        | 0 => .int .i64 (Nn : Nat)
        | 1 => .string q
        | 2 => .int .i64 (q.size : Nat)
        | 3 => .bool true
        | 4 => .bool true
        | 5 => .slice A1 m c1
        | 6 => .string jt
        | 7 => .string q
        | 8 => .int .i64 (Nn : Nat)
        | 9 => .string jt
        | 10 => .bool true
        | 11 => .bool true
        | 12 => .bool true
        | 13 => .agg #[.int .i64 os, .slice G gn gc, .slice K' kn kc, .slice D' dn dc, .int .i64 st]
        | 14 => .bool true
        | 15 => .bool false
        | 16 => .bool false
        | 17 => .slice A1 m c1
        | 18 => .int .i64 (m : Nat)
        | 19 => .bool true
        | 20 => .bool true
        | 21 => .bool true
        | 25 => .bool true
        | 26 => .bool true
        | 27 => .bool true
        | 28 => .bool true
        | 29 => .bool true
        | 30 => .bool true
        | _ => undef)
       (fun D _ wx => Below wz.heap.size wz wx)
       () ?_ ?_ ?_
      ·intro D hD
       exact (Below.refl _ _).drew
      ·refine StepAll.cons (fun D s wx hR (hDi : D 0 = false) hd hsh a' hs K hK => ?_) ?_
       ·have e7 := hs.old 7 (u := .int .i64 (Nn : Nat)) (by kernel_rfl) rfl
        clear hs
        go_simp
        exact hK () wx (fun _ _ => rfl) hR
       refine StepAll.cons (fun D s wx hR (hDi : D 1 = false) hd hsh a' hs K hK => ?_) ?_
       ·have e5 := hs.old 5 (u := .string q) (by kernel_rfl) rfl
        clear hs
        go_simp
        exact hK () wx (fun _ _ => rfl) hR
       refine StepAll.cons (fun D s wx hR (hDi : D 2 = false) hd hsh a' hs K hK => ?_) ?_
       ·have e125 := hs.g 1 125 (.string q) (hd ⟨1, .data⟩ (by simp) rfl)
        have g125 := getQ e125
        clear hs
        go_simp
        exact hK () wx (fun _ _ => rfl) hR
       refine StepAll.cons (fun D s wx hR (hDi : D 3 = false) hd hsh a' hs K hK => ?_) ?_
       ·have e124 := hs.g 0 124 (.int .i64 (Nn : Nat)) (hd ⟨0, .data⟩ (by simp) rfl)
        have e126 := hs.g 2 126 (.int .i64 (q.size : Nat)) (hd ⟨2, .data⟩ (by simp) rfl)
        clear hs
        have hle := HLE.out
        go_simp
        exact hK () wx (fun _ _ => rfl) hR
       refine StepAll.cons (fun D s wx hR (hDi : D 4 = false) hd hsh a' hs K hK => ?_) ?_
       ·have e127 := hs.g 3 127 (.bool true) (hd ⟨3, .data⟩ (by simp) rfl)
        clear hs
        go_simp
        exact hK () wx (fun _ _ => rfl) hR
       refine StepAll.consG (fun D s wx hR (hDi : D 5 = false) hd hsh a' hs K hK => ?_) ?_
       ·have eg := hs.g 4 128 (.bool true) (hd ⟨4, .guard⟩ (by simp) rfl)
        rw [if_pos (by rw [hs.wants (j := 4) (t := 128) rfl rfl eg (by kernel_rfl)]; rfl)]
        have e6 := hs.old 6 (u := .slice A1 m c1) (by kernel_rfl) rfl
        clear hs
        go_simp
        exact hK () wx (fun _ _ => rfl) hR
       refine StepAll.consG (fun D s wx hR (hDi : D 6 = false) hd hsh a' hs K hK => ?_) ?_
       ·have eg := hs.g 4 128 (.bool true) (hd ⟨4, .guard⟩ (by simp) rfl)
        rw [if_pos (by rw [hs.wants (j := 4) (t := 128) rfl rfl eg (by kernel_rfl)]; rfl)]
        have e129 := hs.g 5 129 (.slice A1 m c1) (hd ⟨5, .data⟩ (by simp) rfl)
        have g129 := getQ e129
        clear hs
        go_simp
        refine (journalText_impl A1 m c1 aa _ (HRJ.out.up hR) (by omega)).mono ?_
        rw [HJT.out]
        rintro e2 w2 ⟨rfl, hb2⟩
        exact hK () w2 (fun _ _ => rfl) (hR.trans (hb2.mono hR.size))
       refine StepAll.consG (fun D s wx hR (hDi : D 7 = false) hd hsh a' hs K hK => ?_) ?_
       ·have eg := hs.g 4 128 (.bool true) (hd ⟨4, .guard⟩ (by simp) rfl)
        rw [if_pos (by rw [hs.wants (j := 4) (t := 128) rfl rfl eg (by kernel_rfl)]; rfl)]
        have e5 := hs.old 5 (u := .string q) (by kernel_rfl) rfl
        clear hs
        go_simp
        exact hK () wx (fun _ _ => rfl) hR
       refine StepAll.consG (fun D s wx hR (hDi : D 8 = false) hd hsh a' hs K hK => ?_) ?_
       ·have eg := hs.g 4 128 (.bool true) (hd ⟨4, .guard⟩ (by simp) rfl)
        rw [if_pos (by rw [hs.wants (j := 4) (t := 128) rfl rfl eg (by kernel_rfl)]; rfl)]
        have e7 := hs.old 7 (u := .int .i64 (Nn : Nat)) (by kernel_rfl) rfl
        clear hs
        go_simp
        exact hK () wx (fun _ _ => rfl) hR
       refine StepAll.consG (fun D s wx hR (hDi : D 9 = false) hd hsh a' hs K hK => ?_) ?_
       ·have eg := hs.g 4 128 (.bool true) (hd ⟨4, .guard⟩ (by simp) rfl)
        rw [if_pos (by rw [hs.wants (j := 4) (t := 128) rfl rfl eg (by kernel_rfl)]; rfl)]
        have e131 := hs.g 7 131 (.string q) (hd ⟨7, .data⟩ (by simp) rfl)
        have e132 := hs.g 8 132 (.int .i64 (Nn : Nat)) (hd ⟨8, .data⟩ (by simp) rfl)
        clear hs
        have hcut := HCUT.out
        go_simp
        exact hK () wx (fun _ _ => rfl) hR
       refine StepAll.consG (fun D s wx hR (hDi : D 10 = false) hd hsh a' hs K hK => ?_) ?_
       ·have eg := hs.g 4 128 (.bool true) (hd ⟨4, .guard⟩ (by simp) rfl)
        rw [if_pos (by rw [hs.wants (j := 4) (t := 128) rfl rfl eg (by kernel_rfl)]; rfl)]
        have e130 := hs.g 6 130 (.string jt) (hd ⟨6, .data⟩ (by simp) rfl)
        have e133 := hs.g 9 133 (.string jt) (hd ⟨9, .data⟩ (by simp) rfl)
        clear hs
        go_simp
        exact hK () wx (fun _ _ => rfl) hR
       refine StepAll.cons (fun D s wx hR (hDi : D 11 = false) hd hsh a' hs K hK => ?_) ?_
       ·have e128 := hs.g 4 128 (.bool true) (hd ⟨4, .data⟩ (by simp) rfl)
        have e134 := hs.g 10 134 (.bool true) (hd ⟨10, .data⟩ (by simp) rfl)
        clear hs
        go_simp
        exact hK () wx (fun _ _ => rfl) hR
       refine StepAll.cons (fun D s wx hR (hDi : D 12 = false) hd hsh a' hs K hK => ?_) ?_
       ·have e135 := hs.g 11 135 (.bool true) (hd ⟨11, .data⟩ (by simp) rfl)
        clear hs
        go_simp
        exact hK () wx (fun _ _ => rfl) hR
       refine StepAll.consG (fun D s wx hR (hDi : D 13 = false) hd hsh a' hs K hK => ?_) ?_
       ·have eg := hs.g 12 136 (.bool true) (hd ⟨12, .guard⟩ (by simp) rfl)
        rw [if_pos (by rw [hs.wants (j := 12) (t := 136) rfl rfl eg (by kernel_rfl)]; rfl)]
        have e13 := hs.old 13 (u := .pointer (some ⟨g13, 0, none⟩)) (by kernel_rfl) rfl
        clear hs
        have c0 : wx.cell? ⟨g13, 0, none⟩ = some (.int .i64 os) := (bcells hR _ _ HG13z.out).trans HB0.out
        have c1 : wx.cell? ⟨g13, 1, none⟩ = some (.slice G gn gc) := (bcells hR _ _ HG13z.out).trans HB1.out
        have c2 : wx.cell? ⟨g13, 2, none⟩ = some (.slice K' kn kc) := (bcells hR _ _ HG13z.out).trans HB2.out
        have c3 : wx.cell? ⟨g13, 3, none⟩ = some (.slice D' dn dc) := (bcells hR _ _ HG13z.out).trans HB3.out
        have c4 : wx.cell? ⟨g13, 4, none⟩ = some (.int .i64 st) := (bcells hR _ _ HG13z.out).trans HB4.out
        go_simp
        exact hK () wx (fun _ _ => rfl) hR
       refine StepAll.consG (fun D s wx hR (hDi : D 14 = false) hd hsh a' hs K hK => ?_) ?_
       ·have eg := hs.g 12 136 (.bool true) (hd ⟨12, .guard⟩ (by simp) rfl)
        rw [if_pos (by rw [hs.wants (j := 12) (t := 136) rfl rfl eg (by kernel_rfl)]; rfl)]
        have e137 := hs.g 13 137 (.agg #[.int .i64 os, .slice G gn gc, .slice K' kn kc, .slice D' dn dc, .int .i64 st]) (hd ⟨13, .data⟩ (by simp) rfl)
        have g137 := getQ e137
        clear hs
        go_simp
        refine (bookValid_spec _ b _ (HRB.out.up hR)).mono ?_
        rw [HBO.out]
        rintro e2 w2 ⟨rfl, hb2⟩
        exact hK () w2 (fun _ _ => rfl) (hR.trans (hb2.mono hR.size))
       refine StepAll.consG (fun D s wx hR (hDi : D 15 = false) hd hsh a' hs K hK => ?_) ?_
       ·have eg := hs.g 12 136 (.bool true) (hd ⟨12, .guard⟩ (by simp) rfl)
        rw [if_pos (by rw [hs.wants (j := 12) (t := 136) rfl rfl eg (by kernel_rfl)]; rfl)]
        have e138 := hs.g 14 138 (.bool true) (hd ⟨14, .data⟩ (by simp) rfl)
        clear hs
        go_simp
        exact hK () wx (fun _ _ => rfl) hR
       refine StepAll.consG (fun D s wx hR (hDi : D 16 = false) hd hsh a' hs K hK => ?_) ?_
       ·have eg := hs.g 12 136 (.bool true) (hd ⟨12, .guard⟩ (by simp) rfl)
        rw [if_pos (by rw [hs.wants (j := 12) (t := 136) rfl rfl eg (by kernel_rfl)]; rfl)]
        have e139 := hs.g 15 139 (.bool false) (hd ⟨15, .data⟩ (by simp) rfl)
        clear hs
        go_simp
        exact hK () wx (fun _ _ => rfl) hR
       refine StepAll.consG (fun D s wx hR (hDi : D 17 = false) hd hsh a' hs K hK => ?_) ?_
       ·have eg := hs.g 16 140 (.bool false) (hd ⟨16, .guard⟩ (by simp) rfl)
        rw [if_pos (by rw [hs.wants (j := 16) (t := 140) rfl rfl eg (by kernel_rfl)]; rfl)]
        have e6 := hs.old 6 (u := .slice A1 m c1) (by kernel_rfl) rfl
        clear hs
        go_simp
        exact hK () wx (fun _ _ => rfl) hR
       refine StepAll.consG (fun D s wx hR (hDi : D 18 = false) hd hsh a' hs K hK => ?_) ?_
       ·have eg := hs.g 16 140 (.bool false) (hd ⟨16, .guard⟩ (by simp) rfl)
        rw [if_pos (by rw [hs.wants (j := 16) (t := 140) rfl rfl eg (by kernel_rfl)]; rfl)]
        have e141 := hs.g 17 141 (.slice A1 m c1) (hd ⟨17, .data⟩ (by simp) rfl)
        have g141 := getQ e141
        clear hs
        go_simp
        exact hK () wx (fun _ _ => rfl) hR
       refine StepAll.consG (fun D s wx hR (hDi : D 19 = false) hd hsh a' hs K hK => ?_) ?_
       ·have eg := hs.g 16 140 (.bool false) (hd ⟨16, .guard⟩ (by simp) rfl)
        rw [if_pos (by rw [hs.wants (j := 16) (t := 140) rfl rfl eg (by kernel_rfl)]; rfl)]
        have e142 := hs.g 18 142 (.int .i64 (m : Nat)) (hd ⟨18, .data⟩ (by simp) rfl)
        clear hs
        have hm40 : decide ((40 : Int) < (m : Int)) = true := decide_eq_true (by have h9 := HM40.out; omega)
        go_simp
        exact hK () wx (fun _ _ => rfl) hR
       refine StepAll.consG (fun D s wx hR (hDi : D 20 = false) hd hsh a' hs K hK => ?_) ?_
       ·have eg := hs.g 12 136 (.bool true) (hd ⟨12, .guard⟩ (by simp) rfl)
        rw [if_pos (by rw [hs.wants (j := 12) (t := 136) rfl rfl eg (by kernel_rfl)]; rfl)]
        have e140 := hs.g 16 140 (.bool false) (hd ⟨16, .data⟩ (by simp) rfl)
        have e143 := hs.g 19 143 (.bool true) (hd ⟨19, .data⟩ (by simp) rfl)
        clear hs
        go_simp
        exact hK () wx (fun _ _ => rfl) hR
       refine StepAll.consG (fun D s wx hR (hDi : D 21 = false) hd hsh a' hs K hK => ?_) ?_
       ·have eg := hs.g 12 136 (.bool true) (hd ⟨12, .guard⟩ (by simp) rfl)
        rw [if_pos (by rw [hs.wants (j := 12) (t := 136) rfl rfl eg (by kernel_rfl)]; rfl)]
        have e144 := hs.g 20 144 (.bool true) (hd ⟨20, .data⟩ (by simp) rfl)
        clear hs
        go_simp
        exact hK () wx (fun _ _ => rfl) hR
       refine StepAll.skip 21 145 true ?_
       refine StepAll.skip 21 145 true ?_
       refine StepAll.skip 21 145 true ?_
       refine StepAll.consG (fun D s wx hR (hDi : D 25 = false) hd hsh a' hs K hK => ?_) ?_
       ·have eg := hs.g 12 136 (.bool true) (hd ⟨12, .guard⟩ (by simp) rfl)
        rw [if_pos (by rw [hs.wants (j := 12) (t := 136) rfl rfl eg (by kernel_rfl)]; rfl)]
        have e145 := hs.g 21 145 (.bool true) (hd ⟨21, .data⟩ (by simp) rfl)
        have e148 := hs.g 24 148 (undef) (hd ⟨24, .data⟩ (by simp) rfl)
        clear hs
        go_simp
        exact hK () wx (fun _ _ => rfl) hR
       refine StepAll.cons (fun D s wx hR (hDi : D 26 = false) hd hsh a' hs K hK => ?_) ?_
       ·have e136 := hs.g 12 136 (.bool true) (hd ⟨12, .data⟩ (by simp) rfl)
        have e149 := hs.g 25 149 (.bool true) (hd ⟨25, .data⟩ (by simp) rfl)
        clear hs
        go_simp
        exact hK () wx (fun _ _ => rfl) hR
       refine StepAll.cons (fun D s wx hR (hDi : D 27 = false) hd hsh a' hs K hK => ?_) ?_
       ·have e150 := hs.g 26 150 (.bool true) (hd ⟨26, .data⟩ (by simp) rfl)
        clear hs
        go_simp
        exact hK () wx (fun _ _ => rfl) hR
       refine StepAll.consG (fun D s wx hR (hDi : D 28 = false) hd hsh a' hs K hK => ?_) ?_
       ·have eg := hs.g 27 151 (.bool true) (hd ⟨27, .guard⟩ (by simp) rfl)
        rw [if_pos (by rw [hs.wants (j := 27) (t := 151) rfl rfl eg (by kernel_rfl)]; rfl)]
        clear hs
        go_simp
        refine (alive_any _).mono ?_
        rintro e2 w2 ⟨rfl, hb2⟩
        exact hK () w2 (fun _ _ => rfl) (hR.trans (hb2.mono hR.size))
       refine StepAll.cons (fun D s wx hR (hDi : D 29 = false) hd hsh a' hs K hK => ?_) ?_
       ·have e151 := hs.g 27 151 (.bool true) (hd ⟨27, .data⟩ (by simp) rfl)
        have e152 := hs.g 28 152 (.bool true) (hd ⟨28, .data⟩ (by simp) rfl)
        clear hs
        go_simp
        exact hK () wx (fun _ _ => rfl) hR
       refine StepAll.cons (fun D s wx hR (hDi : D 30 = false) hd hsh a' hs K hK => ?_) ?_
       ·have e153 := hs.g 29 153 (.bool true) (hd ⟨29, .data⟩ (by simp) rfl)
        clear hs
        go_simp
        exact hK () wx (fun _ _ => rfl) hR
       exact StepAll.nil
      ·intro D s wx hR hD
       simp only [putA, Act.put, List.setIfInBounds_toArray, List.set_cons_zero, List.set_cons_succ]
       have HSB := Lib.hid (HSZ.out.quiet hR)
       clear hR hD HSZ
       go_wp2
       go_ret
       exact ⟨rfl, HSW.out.trans (HSB.out.below.mono HSW.out.size)⟩
   have qb : ∀ j, _ := fun j => (bcells HS.out.below g13 j HG13.out).trans (HBC.out j)
   have hkI : (k : Int) < (m : Int) := by omega
   go_wp2_with fail
   refine (bookValid_spec _ b _ (HBB.out.up HS.out.below)).mono ?_
   rw [HBO.out]
   rintro e wv ⟨rfl, hbv⟩
   have HSV := Lib.hid (HS.out.quiet hbv)
   clear hbv HS qb
   cases bo with
   | false =>
    have qb : ∀ j, _ := fun j => (bcells HSV.out.below g13 j HG13.out).trans (HBC.out j)
    obtain ⟨x9, hx9⟩ : ∃ y, (bookRun b aa).1 = y := ⟨_, rfl⟩
    obtain ⟨n9, hn9⟩ : ∃ y, (bookRun b aa).2 = y := ⟨_, rfl⟩
    have HX9 := Bx.mk hx9
    have HN9 := Bx.mk hn9
    obtain ⟨es0, hes⟩ : ∃ y, x9.order.start = y := ⟨_, rfl⟩
    obtain ⟨et, het⟩ : ∃ y, x9.state = y := ⟨_, rfl⟩
    have HES := Bx.mk hes
    have HET := Bx.mk het
    clear hx9 hn9 hes het
    go_wp2_with fail
    refine (bookRun_impl _ b _ _ _ aa _ (HBB.out.up HSV.out.below) (HAB.out.up HSV.out.below) HWF.out).mono ?_
    rw [HX9.out, HN9.out]
    rintro e wf ⟨vf, rfl, sf⟩
    obtain ⟨E1, e1, f1, E2, e2, f2, E3, e3, f3, hv⟩ := sf.formB 0 rfl
    rw [HES.out, HET.out] at hv
    subst hv
    obtain ⟨g19, hg19⟩ : ∃ y, wf.heap.size = y := ⟨_, rfl⟩
    obtain ⟨wz, hwz⟩ : ∃ y, wf.alloc (.cells #[.int .i64 es0, .slice E1 e1 f1, .slice E2 e2 f2, .slice E3 e3 f3, .int .i64 et] 28) = y := ⟨_, rfl⟩
    have HSZ : Hid (St wb wz [rBookOr wb (.agg #[.int .i64 xs0, .slice X1 i1 j1, .slice X2 i2 j2, .slice X3 i3 j3, .int .i64 xt]) x, rBlk g15 28 #[.int .i64 xs0, .slice X1 i1 j1, .slice X2 i2 j2, .slice X3 i3 j3, .int .i64 xt], rBook (.agg #[.int .i64 es0, .slice E1 e1 f1, .slice E2 e2 f2, .slice E3 e3 f3, .int .i64 et]) x9, rBlk g19 28 #[.int .i64 es0, .slice E1 e1 f1, .slice E2 e2 f2, .slice E3 e3 f3, .int .i64 et]]) := Lib.hid (by rw [← hwz, ← hg19]; exact (HSV.out.call sf).alloc _ _)
    clear sf qb
    go_upto_region 24 with (fail)
    try rw [hg19]
    try rw [hwz]
    have k13 : ∀ j, wz.cell? ⟨g13, j, none⟩ = _ := fun j => (bcells HSZ.out.below g13 j HG13.out).trans (HBC.out j)
    have HB0 := Bx.mk (k13 0)
    have HB1 := Bx.mk (k13 1)
    have HB2 := Bx.mk (k13 2)
    have HB3 := Bx.mk (k13 3)
    have HB4 := Bx.mk (k13 4)
    have HG13z : Bx (g13 < wz.heap.size) := Bx.mk (Nat.lt_of_lt_of_le HG13.out HSZ.out.below.size)
    have HRJ := Lib.hid (HAB.out.up HSZ.out.below)
    have HRB := Lib.hid (HBB.out.up HSZ.out.below)
    clear k13 hwz hg19
    refine wp_reg (σ := Unit) (by kernel_rfl) (by kernel_rfl) (by kernel_rfl)
     (fun _ i => match i with
      | 0 => .int .i64 (Nn : Nat)
      | 1 => .string q
      | 2 => .int .i64 (q.size : Nat)
      | 3 => .bool true
      | 4 => .bool true
      | 5 => .slice A1 m c1
      | 6 => .string jt
      | 7 => .string q
      | 8 => .int .i64 (Nn : Nat)
      | 9 => .string jt
      | 10 => .bool true
      | 11 => .bool true
      | 12 => .bool true
      | 13 => .agg #[.int .i64 os, .slice G gn gc, .slice K' kn kc, .slice D' dn dc, .int .i64 st]
      | 14 => .bool false
      | 15 => .bool true
      | 16 => .bool true
      | 20 => .bool true
      | 21 => .bool true
      | 25 => .bool true
      | 26 => .bool true
      | 27 => .bool true
      | 28 => .bool true
      | 29 => .bool true
      | 30 => .bool true
      | _ => undef)
     (fun D _ wx => Below wz.heap.size wz wx)
     () ?_ ?_ ?_
    ·intro D hD
     exact (Below.refl _ _).drew
    ·refine StepAll.cons (fun D s wx hR (hDi : D 0 = false) hd hsh a' hs K hK => ?_) ?_
     ·have e7 := hs.old 7 (u := .int .i64 (Nn : Nat)) (by kernel_rfl) rfl
      clear hs
      go_simp
      exact hK () wx (fun _ _ => rfl) hR
     refine StepAll.cons (fun D s wx hR (hDi : D 1 = false) hd hsh a' hs K hK => ?_) ?_
     ·have e5 := hs.old 5 (u := .string q) (by kernel_rfl) rfl
      clear hs
      go_simp
      exact hK () wx (fun _ _ => rfl) hR
     refine StepAll.cons (fun D s wx hR (hDi : D 2 = false) hd hsh a' hs K hK => ?_) ?_
     ·have e125 := hs.g 1 125 (.string q) (hd ⟨1, .data⟩ (by simp) rfl)
      have g125 := getQ e125
      clear hs
      go_simp
      exact hK () wx (fun _ _ => rfl) hR
     refine StepAll.cons (fun D s wx hR (hDi : D 3 = false) hd hsh a' hs K hK => ?_) ?_
     ·have e124 := hs.g 0 124 (.int .i64 (Nn : Nat)) (hd ⟨0, .data⟩ (by simp) rfl)
      have e126 := hs.g 2 126 (.int .i64 (q.size : Nat)) (hd ⟨2, .data⟩ (by simp) rfl)
      clear hs
      have hle := HLE.out
      go_simp
      exact hK () wx (fun _ _ => rfl) hR
     refine StepAll.cons (fun D s wx hR (hDi : D 4 = false) hd hsh a' hs K hK => ?_) ?_
     ·have e127 := hs.g 3 127 (.bool true) (hd ⟨3, .data⟩ (by simp) rfl)
      clear hs
      go_simp
      exact hK () wx (fun _ _ => rfl) hR
     refine StepAll.consG (fun D s wx hR (hDi : D 5 = false) hd hsh a' hs K hK => ?_) ?_
     ·have eg := hs.g 4 128 (.bool true) (hd ⟨4, .guard⟩ (by simp) rfl)
      rw [if_pos (by rw [hs.wants (j := 4) (t := 128) rfl rfl eg (by kernel_rfl)]; rfl)]
      have e6 := hs.old 6 (u := .slice A1 m c1) (by kernel_rfl) rfl
      clear hs
      go_simp
      exact hK () wx (fun _ _ => rfl) hR
     refine StepAll.consG (fun D s wx hR (hDi : D 6 = false) hd hsh a' hs K hK => ?_) ?_
     ·have eg := hs.g 4 128 (.bool true) (hd ⟨4, .guard⟩ (by simp) rfl)
      rw [if_pos (by rw [hs.wants (j := 4) (t := 128) rfl rfl eg (by kernel_rfl)]; rfl)]
      have e129 := hs.g 5 129 (.slice A1 m c1) (hd ⟨5, .data⟩ (by simp) rfl)
      have g129 := getQ e129
      clear hs
      go_simp
      refine (journalText_impl A1 m c1 aa _ (HRJ.out.up hR) (by omega)).mono ?_
      rw [HJT.out]
      rintro e2 w2 ⟨rfl, hb2⟩
      exact hK () w2 (fun _ _ => rfl) (hR.trans (hb2.mono hR.size))
     refine StepAll.consG (fun D s wx hR (hDi : D 7 = false) hd hsh a' hs K hK => ?_) ?_
     ·have eg := hs.g 4 128 (.bool true) (hd ⟨4, .guard⟩ (by simp) rfl)
      rw [if_pos (by rw [hs.wants (j := 4) (t := 128) rfl rfl eg (by kernel_rfl)]; rfl)]
      have e5 := hs.old 5 (u := .string q) (by kernel_rfl) rfl
      clear hs
      go_simp
      exact hK () wx (fun _ _ => rfl) hR
     refine StepAll.consG (fun D s wx hR (hDi : D 8 = false) hd hsh a' hs K hK => ?_) ?_
     ·have eg := hs.g 4 128 (.bool true) (hd ⟨4, .guard⟩ (by simp) rfl)
      rw [if_pos (by rw [hs.wants (j := 4) (t := 128) rfl rfl eg (by kernel_rfl)]; rfl)]
      have e7 := hs.old 7 (u := .int .i64 (Nn : Nat)) (by kernel_rfl) rfl
      clear hs
      go_simp
      exact hK () wx (fun _ _ => rfl) hR
     refine StepAll.consG (fun D s wx hR (hDi : D 9 = false) hd hsh a' hs K hK => ?_) ?_
     ·have eg := hs.g 4 128 (.bool true) (hd ⟨4, .guard⟩ (by simp) rfl)
      rw [if_pos (by rw [hs.wants (j := 4) (t := 128) rfl rfl eg (by kernel_rfl)]; rfl)]
      have e131 := hs.g 7 131 (.string q) (hd ⟨7, .data⟩ (by simp) rfl)
      have e132 := hs.g 8 132 (.int .i64 (Nn : Nat)) (hd ⟨8, .data⟩ (by simp) rfl)
      clear hs
      have hcut := HCUT.out
      go_simp
      exact hK () wx (fun _ _ => rfl) hR
     refine StepAll.consG (fun D s wx hR (hDi : D 10 = false) hd hsh a' hs K hK => ?_) ?_
     ·have eg := hs.g 4 128 (.bool true) (hd ⟨4, .guard⟩ (by simp) rfl)
      rw [if_pos (by rw [hs.wants (j := 4) (t := 128) rfl rfl eg (by kernel_rfl)]; rfl)]
      have e130 := hs.g 6 130 (.string jt) (hd ⟨6, .data⟩ (by simp) rfl)
      have e133 := hs.g 9 133 (.string jt) (hd ⟨9, .data⟩ (by simp) rfl)
      clear hs
      go_simp
      exact hK () wx (fun _ _ => rfl) hR
     refine StepAll.cons (fun D s wx hR (hDi : D 11 = false) hd hsh a' hs K hK => ?_) ?_
     ·have e128 := hs.g 4 128 (.bool true) (hd ⟨4, .data⟩ (by simp) rfl)
      have e134 := hs.g 10 134 (.bool true) (hd ⟨10, .data⟩ (by simp) rfl)
      clear hs
      go_simp
      exact hK () wx (fun _ _ => rfl) hR
     refine StepAll.cons (fun D s wx hR (hDi : D 12 = false) hd hsh a' hs K hK => ?_) ?_
     ·have e135 := hs.g 11 135 (.bool true) (hd ⟨11, .data⟩ (by simp) rfl)
      clear hs
      go_simp
      exact hK () wx (fun _ _ => rfl) hR
     refine StepAll.consG (fun D s wx hR (hDi : D 13 = false) hd hsh a' hs K hK => ?_) ?_
     ·have eg := hs.g 12 136 (.bool true) (hd ⟨12, .guard⟩ (by simp) rfl)
      rw [if_pos (by rw [hs.wants (j := 12) (t := 136) rfl rfl eg (by kernel_rfl)]; rfl)]
      have e13 := hs.old 13 (u := .pointer (some ⟨g13, 0, none⟩)) (by kernel_rfl) rfl
      clear hs
      have c0 : wx.cell? ⟨g13, 0, none⟩ = some (.int .i64 os) := (bcells hR _ _ HG13z.out).trans HB0.out
      have c1 : wx.cell? ⟨g13, 1, none⟩ = some (.slice G gn gc) := (bcells hR _ _ HG13z.out).trans HB1.out
      have c2 : wx.cell? ⟨g13, 2, none⟩ = some (.slice K' kn kc) := (bcells hR _ _ HG13z.out).trans HB2.out
      have c3 : wx.cell? ⟨g13, 3, none⟩ = some (.slice D' dn dc) := (bcells hR _ _ HG13z.out).trans HB3.out
      have c4 : wx.cell? ⟨g13, 4, none⟩ = some (.int .i64 st) := (bcells hR _ _ HG13z.out).trans HB4.out
      go_simp
      exact hK () wx (fun _ _ => rfl) hR
     refine StepAll.consG (fun D s wx hR (hDi : D 14 = false) hd hsh a' hs K hK => ?_) ?_
     ·have eg := hs.g 12 136 (.bool true) (hd ⟨12, .guard⟩ (by simp) rfl)
      rw [if_pos (by rw [hs.wants (j := 12) (t := 136) rfl rfl eg (by kernel_rfl)]; rfl)]
      have e137 := hs.g 13 137 (.agg #[.int .i64 os, .slice G gn gc, .slice K' kn kc, .slice D' dn dc, .int .i64 st]) (hd ⟨13, .data⟩ (by simp) rfl)
      have g137 := getQ e137
      clear hs
      go_simp
      refine (bookValid_spec _ b _ (HRB.out.up hR)).mono ?_
      rw [HBO.out]
      rintro e2 w2 ⟨rfl, hb2⟩
      exact hK () w2 (fun _ _ => rfl) (hR.trans (hb2.mono hR.size))
     refine StepAll.consG (fun D s wx hR (hDi : D 15 = false) hd hsh a' hs K hK => ?_) ?_
     ·have eg := hs.g 12 136 (.bool true) (hd ⟨12, .guard⟩ (by simp) rfl)
      rw [if_pos (by rw [hs.wants (j := 12) (t := 136) rfl rfl eg (by kernel_rfl)]; rfl)]
      have e138 := hs.g 14 138 (.bool false) (hd ⟨14, .data⟩ (by simp) rfl)
      clear hs
      go_simp
      exact hK () wx (fun _ _ => rfl) hR
     refine StepAll.consG (fun D s wx hR (hDi : D 16 = false) hd hsh a' hs K hK => ?_) ?_
     ·have eg := hs.g 12 136 (.bool true) (hd ⟨12, .guard⟩ (by simp) rfl)
      rw [if_pos (by rw [hs.wants (j := 12) (t := 136) rfl rfl eg (by kernel_rfl)]; rfl)]
      have e139 := hs.g 15 139 (.bool true) (hd ⟨15, .data⟩ (by simp) rfl)
      clear hs
      go_simp
      exact hK () wx (fun _ _ => rfl) hR
     refine StepAll.skip 16 140 true ?_
     refine StepAll.skip 16 140 true ?_
     refine StepAll.skip 16 140 true ?_
     refine StepAll.consG (fun D s wx hR (hDi : D 20 = false) hd hsh a' hs K hK => ?_) ?_
     ·have eg := hs.g 12 136 (.bool true) (hd ⟨12, .guard⟩ (by simp) rfl)
      rw [if_pos (by rw [hs.wants (j := 12) (t := 136) rfl rfl eg (by kernel_rfl)]; rfl)]
      have e140 := hs.g 16 140 (.bool true) (hd ⟨16, .data⟩ (by simp) rfl)
      have e143 := hs.g 19 143 (undef) (hd ⟨19, .data⟩ (by simp) rfl)
      clear hs
      go_simp
      exact hK () wx (fun _ _ => rfl) hR
     refine StepAll.consG (fun D s wx hR (hDi : D 21 = false) hd hsh a' hs K hK => ?_) ?_
     ·have eg := hs.g 12 136 (.bool true) (hd ⟨12, .guard⟩ (by simp) rfl)
      rw [if_pos (by rw [hs.wants (j := 12) (t := 136) rfl rfl eg (by kernel_rfl)]; rfl)]
      have e144 := hs.g 20 144 (.bool true) (hd ⟨20, .data⟩ (by simp) rfl)
      clear hs
      go_simp
      exact hK () wx (fun _ _ => rfl) hR
     refine StepAll.skip 21 145 true ?_
     refine StepAll.skip 21 145 true ?_
     refine StepAll.skip 21 145 true ?_
     refine StepAll.consG (fun D s wx hR (hDi : D 25 = false) hd hsh a' hs K hK => ?_) ?_
     ·have eg := hs.g 12 136 (.bool true) (hd ⟨12, .guard⟩ (by simp) rfl)
      rw [if_pos (by rw [hs.wants (j := 12) (t := 136) rfl rfl eg (by kernel_rfl)]; rfl)]
      have e145 := hs.g 21 145 (.bool true) (hd ⟨21, .data⟩ (by simp) rfl)
      have e148 := hs.g 24 148 (undef) (hd ⟨24, .data⟩ (by simp) rfl)
      clear hs
      go_simp
      exact hK () wx (fun _ _ => rfl) hR
     refine StepAll.cons (fun D s wx hR (hDi : D 26 = false) hd hsh a' hs K hK => ?_) ?_
     ·have e136 := hs.g 12 136 (.bool true) (hd ⟨12, .data⟩ (by simp) rfl)
      have e149 := hs.g 25 149 (.bool true) (hd ⟨25, .data⟩ (by simp) rfl)
      clear hs
      go_simp
      exact hK () wx (fun _ _ => rfl) hR
     refine StepAll.cons (fun D s wx hR (hDi : D 27 = false) hd hsh a' hs K hK => ?_) ?_
     ·have e150 := hs.g 26 150 (.bool true) (hd ⟨26, .data⟩ (by simp) rfl)
      clear hs
      go_simp
      exact hK () wx (fun _ _ => rfl) hR
     refine StepAll.consG (fun D s wx hR (hDi : D 28 = false) hd hsh a' hs K hK => ?_) ?_
     ·have eg := hs.g 27 151 (.bool true) (hd ⟨27, .guard⟩ (by simp) rfl)
      rw [if_pos (by rw [hs.wants (j := 27) (t := 151) rfl rfl eg (by kernel_rfl)]; rfl)]
      clear hs
      go_simp
      refine (alive_any _).mono ?_
      rintro e2 w2 ⟨rfl, hb2⟩
      exact hK () w2 (fun _ _ => rfl) (hR.trans (hb2.mono hR.size))
     refine StepAll.cons (fun D s wx hR (hDi : D 29 = false) hd hsh a' hs K hK => ?_) ?_
     ·have e151 := hs.g 27 151 (.bool true) (hd ⟨27, .data⟩ (by simp) rfl)
      have e152 := hs.g 28 152 (.bool true) (hd ⟨28, .data⟩ (by simp) rfl)
      clear hs
      go_simp
      exact hK () wx (fun _ _ => rfl) hR
     refine StepAll.cons (fun D s wx hR (hDi : D 30 = false) hd hsh a' hs K hK => ?_) ?_
     ·have e153 := hs.g 29 153 (.bool true) (hd ⟨29, .data⟩ (by simp) rfl)
      clear hs
      go_simp
      exact hK () wx (fun _ _ => rfl) hR
     exact StepAll.nil
    ·intro D s wx hR hD
     simp only [putA, Act.put, List.setIfInBounds_toArray, List.set_cons_zero, List.set_cons_succ]
     have HSB := Lib.hid (HSZ.out.quiet hR)
     clear hR hD HSZ
     go_wp2
     go_ret
     exact ⟨rfl, HSW.out.trans (HSB.out.below.mono HSW.out.size)⟩
   | true =>
    obtain ⟨ab, ao, a, rfl, -, ha, -⟩ := HAB.out.get hlt
    have HA := Bx.mk ha
    have haj := rJ_mem (s := sL) (a := a) (by rw [HAA.out]; exact List.mem_of_getElem? ha)
    obtain ⟨ta, hta⟩ : ∃ y : ByteArray, (⟨(actT a.kind a.number).toArray⟩ : ByteArray) = y := ⟨_, rfl⟩
    have HTA := Bx.mk hta
    have HTS : Bx (ta.size ≤ 9223372036854775807) := Bx.mk (by
     rw [← hta, size_of_list]
     have := (actT_has haj.1).len
     omega)
    have HRA : Bx (readA ta.data.toList = some (a.kind, a.number)) := Bx.mk (by rw [← hta]; exact readA_actT haj.1)
    have HXO : Bx (bookOk x = true) := Bx.mk (by rw [← HXR.out]; exact (runB_ok _ HBO.out).1)
    obtain ⟨y, hy⟩ : ∃ y, bookDo x ⟨a.kind, a.number⟩ = y := ⟨_, rfl⟩
    obtain ⟨did, hdid⟩ : ∃ y, bookDid x ⟨a.kind, a.number⟩ = y := ⟨_, rfl⟩
    have HY := Bx.mk hy
    have HDID := Bx.mk hdid
    obtain ⟨ys0, hys⟩ : ∃ z, y.order.start = z := ⟨_, rfl⟩
    obtain ⟨yt, hyt⟩ : ∃ z, y.state = z := ⟨_, rfl⟩
    have HYS := Bx.mk hys
    have HYT := Bx.mk hyt
    have HXR2 : Bx ((runB b (aa.take (k + 1))).1 = y) := Bx.mk (by
     rw [take_last ha, runB_append]
     show (runB (runB b (aa.take k)).1 [a]).1 = y
     rw [HXR.out, ← hy]
     rfl)
    clear ha haj hta hy hdid hys hyt HXR
    go_upto_region 19 with (fail)
    refine wp_reg (σ := Nat × (Option Addr × Nat × Nat) × (Option Addr × Nat × Nat) × (Option Addr × Nat × Nat)) (by kernel_rfl) (by kernel_rfl) (by kernel_rfl)
     (fun s i => match i with
      | 0 => .agg #[.int .i64 xs0, .slice X1 i1 j1, .slice X2 i2 j2, .slice X3 i3 j3, .int .i64 xt]
      | 1 => .slice (some ⟨ab, ao, none⟩) m c1
      | 2 => .int .i64 (k : Nat)
      | 3 => .pointer (some ⟨ab, ao + k * 2, none⟩)
      | 4 => .agg #[.int .i64 a.kind, .int .i64 a.number]
      | 5 => .string ta
      | 6 => .tuple #[.agg #[.int .i64 ys0, .slice s.2.1.1 s.2.1.2.1 s.2.1.2.2, .slice s.2.2.1.1 s.2.2.1.2.1 s.2.2.1.2.2, .slice s.2.2.2.1 s.2.2.2.2.1 s.2.2.2.2.2, .int .i64 yt], .string (ansA did)]
      | 7 => .tuple #[.agg #[.int .i64 ys0, .slice s.2.1.1 s.2.1.2.1 s.2.1.2.2, .slice s.2.2.1.1 s.2.2.1.2.1 s.2.2.1.2.2, .slice s.2.2.2.1 s.2.2.2.2.1 s.2.2.2.2.2, .int .i64 yt], .string (ansA did)]
      | 8 => .agg #[.int .i64 ys0, .slice s.2.1.1 s.2.1.2.1 s.2.1.2.2, .slice s.2.2.1.1 s.2.2.1.2.1 s.2.2.1.2.2, .slice s.2.2.2.1 s.2.2.2.2.1 s.2.2.2.2.2, .int .i64 yt]
      | 9 => .string (ansA did)
      | 10 => .pointer (some ⟨s.1, 0, none⟩)
      | 12 => .string (ansA did)
      | _ => undef)
     (fun D s wx => Sn wb wx fun i => match i with
      | 0 => some (rBookOr wb (.agg #[.int .i64 xs0, .slice X1 i1 j1, .slice X2 i2 j2, .slice X3 i3 j3, .int .i64 xt]) x)
      | 1 => some (rBlk g15 28 #[.int .i64 xs0, .slice X1 i1 j1, .slice X2 i2 j2, .slice X3 i3 j3, .int .i64 xt])
      | 2 => if D 6 = true then some (rBook (.agg #[.int .i64 ys0, .slice s.2.1.1 s.2.1.2.1 s.2.1.2.2, .slice s.2.2.1.1 s.2.2.1.2.1 s.2.2.1.2.2, .slice s.2.2.2.1 s.2.2.2.2.1 s.2.2.2.2.2, .int .i64 yt]) y) else none
      | 3 => if D 10 = true then some (rBlk s.1 28 (if D 11 = true then #[.int .i64 ys0, .slice s.2.1.1 s.2.1.2.1 s.2.1.2.2, .slice s.2.2.1.1 s.2.2.1.2.1 s.2.2.1.2.2, .slice s.2.2.2.1 s.2.2.2.2.1 s.2.2.2.2.2, .int .i64 yt] else #[.int .i64 0, .slice none 0 0, .slice none 0 0, .slice none 0 0, .int .i64 0])) else none
      | _ => none)
     (0, (none, 0, 0), (none, 0, 0), (none, 0, 0)) ?_ ?_ ?_
    ·intro D hD
     refine ((Sn.of_st HSV.out).quiet ((Below.refl _ _).drew)).congr fun i => ?_
     match i with
     | 0 => rfl
     | 1 => rfl
     | 2 => exact if_neg (by rw [hD 6 (by decide)]; simp)
     | 3 => exact if_neg (by rw [hD 10 (by decide)]; simp)
     | q + 4 => rfl
    ·refine StepAll.cons (fun D s wx hR (hDi : D 0 = false) hd hsh a' hs K hK => ?_) ?_
     ·have e15 := hs.old 15 (u := .pointer (some ⟨g15, 0, none⟩)) (by kernel_rfl) rfl
      clear hs
      have kb : Blk wx (g15) 28 #[.int .i64 xs0, .slice X1 i1 j1, .slice X2 i2 j2, .slice X3 i3 j3, .int .i64 xt] := hR.blk 1 rfl
      have c0 : wx.cell? ⟨g15, 0, none⟩ = some (.int .i64 xs0) := kb.cell 0
      have c1 : wx.cell? ⟨g15, 1, none⟩ = some (.slice X1 i1 j1) := kb.cell 1
      have c2 : wx.cell? ⟨g15, 2, none⟩ = some (.slice X2 i2 j2) := kb.cell 2
      have c3 : wx.cell? ⟨g15, 3, none⟩ = some (.slice X3 i3 j3) := kb.cell 3
      have c4 : wx.cell? ⟨g15, 4, none⟩ = some (.int .i64 xt) := kb.cell 4
      go_simp
      exact hK s wx (fun _ _ => rfl) hR
     refine StepAll.cons (fun D s wx hR (hDi : D 1 = false) hd hsh a' hs K hK => ?_) ?_
     ·have e6 := hs.old 6 (u := .slice (some ⟨ab, ao, none⟩) m c1) (by kernel_rfl) rfl
      clear hs
      go_simp
      exact hK s wx (fun _ _ => rfl) hR
     refine StepAll.cons (fun D s wx hR (hDi : D 2 = false) hd hsh a' hs K hK => ?_) ?_
     ·have e16 := hs.old 16 (u := .int .i64 (k : Nat)) (by kernel_rfl) rfl
      clear hs
      go_simp
      exact hK s wx (fun _ _ => rfl) hR
     refine StepAll.cons (fun D s wx hR (hDi : D 3 = false) hd hsh a' hs K hK => ?_) ?_
     ·have e103 := hs.g 1 103 (.slice (some ⟨ab, ao, none⟩) m c1) (hd ⟨1, .data⟩ (by simp) rfl)
      have e104 := hs.g 2 104 (.int .i64 (k : Nat)) (hd ⟨2, .data⟩ (by simp) rfl)
      clear hs
      have hkI : (k : Int) < (m : Int) := by omega
      go_simp
      exact hK s wx (fun _ _ => rfl) hR
     refine StepAll.cons (fun D s wx hR (hDi : D 4 = false) hd hsh a' hs K hK => ?_) ?_
     ·have e105 := hs.g 3 105 (.pointer (some ⟨ab, ao + k * 2, none⟩)) (hd ⟨3, .data⟩ (by simp) rfl)
      clear hs
      have c0 : wx.cell? ⟨ab, ao + k * 2, none⟩ = some (.int .i64 a.kind) := ((HAB.out.up hR.below).act hlt HA.out).1
      have c1 : wx.cell? ⟨ab, ao + k * 2 + 1, none⟩ = some (.int .i64 a.number) := ((HAB.out.up hR.below).act hlt HA.out).2
      go_simp
      exact hK s wx (fun _ _ => rfl) hR
     refine StepAll.cons (fun D s wx hR (hDi : D 5 = false) hd hsh a' hs K hK => ?_) ?_
     ·have e106 := hs.g 4 106 (.agg #[.int .i64 a.kind, .int .i64 a.number]) (hd ⟨4, .data⟩ (by simp) rfl)
      have g106 := getQ e106
      clear hs
      go_simp
      refine (actText_impl a.kind a.number wx).mono ?_
      rw [HTA.out]
      rintro e2 w2 ⟨rfl, hb2⟩
      exact hK s w2 (fun _ _ => rfl) (hR.quiet hb2)
     refine StepAll.cons (fun D s wx hR (hDi : D 6 = false) hd hsh a' hs K hK => ?_) ?_
     ·have e102 := hs.g 0 102 (.agg #[.int .i64 xs0, .slice X1 i1 j1, .slice X2 i2 j2, .slice X3 i3 j3, .int .i64 xt]) (hd ⟨0, .data⟩ (by simp) rfl)
      have e107 := hs.g 5 107 (.string ta) (hd ⟨5, .data⟩ (by simp) rfl)
      have g102 := getQ e102
      have g107 := getQ e107
      clear hs
      have n7 : D 7 = false := hsh.no hDi 7 rfl ⟨6, .data⟩ (by simp) rfl rfl
      have n8 : D 8 = false := hsh.no n7 8 rfl ⟨7, .data⟩ (by simp) rfl rfl
      have n9 : D 9 = false := hsh.no n7 9 rfl ⟨7, .data⟩ (by simp) rfl rfl
      have n11 : D 11 = false := hsh.no n8 11 rfl ⟨8, .data⟩ (by simp) rfl rfl
      have n12 : D 12 = false := hsh.no n9 12 rfl ⟨9, .data⟩ (by simp) rfl rfl
      go_simp
      refine (bookLine_act _ x ta a.kind a.number wx (hR.rdBO 0 rfl) HXO.out HTS.out HRA.out).mono ?_
      rw [HY.out, HDID.out]
      rintro e2 w2 ⟨v2, rfl, s2⟩
      obtain ⟨Y1, p1, o1, Y2, p2, o2, Y3, p3, o3, hv⟩ := s2.formB 0 rfl
      rw [HYS.out, HYT.out] at hv
      subst hv
      refine hK (s.1, (Y1, p1, o1), (Y2, p2, o2), (Y3, p3, o3)) w2
       (fun j hj => by
        match j, hj with
        | 0, hj => rfl
        | 1, hj => rfl
        | 2, hj => rfl
        | 3, hj => rfl
        | 4, hj => rfl
        | 5, hj => rfl
        | 6, hj => rw [hDi] at hj; cases hj
        | 7, hj => rw [n7] at hj; cases hj
        | 8, hj => rw [n8] at hj; cases hj
        | 9, hj => rw [n9] at hj; cases hj
        | 10, hj => rfl
        | 11, hj => rw [n11] at hj; cases hj
        | 12, hj => rw [n12] at hj; cases hj
        | _ + 13, hj => rfl)
       ((hR.add 2 (if_neg (by rw [hDi]; simp)) s2).congr
        (fun i => by
         match i with
         | 0 => rfl
         | 1 => rfl
         | 2 => rfl
         | 3 => (show (if D 10 = true then some (rBlk s.1 28 (if D 11 = true then #[.int .i64 ys0, .slice Y1 p1 o1, .slice Y2 p2 o2, .slice Y3 p3 o3, .int .i64 yt] else #[.int .i64 0, .slice none 0 0, .slice none 0 0, .slice none 0 0, .int .i64 0])) else none) = (if D 10 = true then some (rBlk s.1 28 (if D 11 = true then #[.int .i64 ys0, .slice s.2.1.1 s.2.1.2.1 s.2.1.2.2, .slice s.2.2.1.1 s.2.2.1.2.1 s.2.2.1.2.2, .slice s.2.2.2.1 s.2.2.2.2.1 s.2.2.2.2.2, .int .i64 yt] else #[.int .i64 0, .slice none 0 0, .slice none 0 0, .slice none 0 0, .int .i64 0])) else none); rw [n11]; rfl)
         | q + 4 => exact (if_neg (show ¬ (q + 4 = 2) by omega)).symm))
     refine StepAll.cons (fun D s wx hR (hDi : D 7 = false) hd hsh a' hs K hK => ?_) ?_
     ·have e108 := hs.g 6 108 (.tuple #[.agg #[.int .i64 ys0, .slice s.2.1.1 s.2.1.2.1 s.2.1.2.2, .slice s.2.2.1.1 s.2.2.1.2.1 s.2.2.1.2.2, .slice s.2.2.2.1 s.2.2.2.2.1 s.2.2.2.2.2, .int .i64 yt], .string (ansA did)]) (hd ⟨6, .data⟩ (by simp) rfl)
      clear hs
      go_simp
      exact hK s wx (fun _ _ => rfl) hR
     refine StepAll.cons (fun D s wx hR (hDi : D 8 = false) hd hsh a' hs K hK => ?_) ?_
     ·have e101 := hs.g 7 101 (.tuple #[.agg #[.int .i64 ys0, .slice s.2.1.1 s.2.1.2.1 s.2.1.2.2, .slice s.2.2.1.1 s.2.2.1.2.1 s.2.2.1.2.2, .slice s.2.2.2.1 s.2.2.2.2.1 s.2.2.2.2.2, .int .i64 yt], .string (ansA did)]) (hd ⟨7, .data⟩ (by simp) rfl)
      clear hs
      go_simp
      exact hK s wx (fun _ _ => rfl) hR
     refine StepAll.cons (fun D s wx hR (hDi : D 9 = false) hd hsh a' hs K hK => ?_) ?_
     ·have e101 := hs.g 7 101 (.tuple #[.agg #[.int .i64 ys0, .slice s.2.1.1 s.2.1.2.1 s.2.1.2.2, .slice s.2.2.1.1 s.2.2.1.2.1 s.2.2.1.2.2, .slice s.2.2.2.1 s.2.2.2.2.1 s.2.2.2.2.2, .int .i64 yt], .string (ansA did)]) (hd ⟨7, .data⟩ (by simp) rfl)
      clear hs
      go_simp
      exact hK s wx (fun _ _ => rfl) hR
     refine StepAll.cons (fun D s wx hR (hDi : D 10 = false) hd hsh a' hs K hK => ?_) ?_
     ·clear hs
      have n11 : D 11 = false := hsh.no hDi 11 rfl ⟨10, .data⟩ (by simp) rfl rfl
      go_simp
      refine hK (wx.heap.size, s.2) _
       (fun j hj => by
        match j, hj with
        | 0, hj => rfl
        | 1, hj => rfl
        | 2, hj => rfl
        | 3, hj => rfl
        | 4, hj => rfl
        | 5, hj => rfl
        | 6, hj => rfl
        | 7, hj => rfl
        | 8, hj => rfl
        | 9, hj => rfl
        | 10, hj => rw [hDi] at hj; cases hj
        | 11, hj => rw [n11] at hj; cases hj
        | 12, hj => rfl
        | _ + 13, hj => rfl)
       ((hR.add 3 (if_neg (by rw [hDi]; simp)) (St.new1 wx #[.int .i64 0, .slice none 0 0, .slice none 0 0, .slice none 0 0, .int .i64 0] 28)).congr
        (fun i => by
         match i with
         | 0 => rfl
         | 1 => rfl
         | 2 => rfl
         | 3 => (show (if true = true then some (rBlk wx.heap.size 28 (if D 11 = true then #[.int .i64 ys0, .slice s.2.1.1 s.2.1.2.1 s.2.1.2.2, .slice s.2.2.1.1 s.2.2.1.2.1 s.2.2.1.2.2, .slice s.2.2.2.1 s.2.2.2.2.1 s.2.2.2.2.2, .int .i64 yt] else #[.int .i64 0, .slice none 0 0, .slice none 0 0, .slice none 0 0, .int .i64 0])) else none) = some (rBlk wx.heap.size 28 #[.int .i64 0, .slice none 0 0, .slice none 0 0, .slice none 0 0, .int .i64 0]); rw [n11]; rfl)
         | q + 4 => exact (if_neg (show ¬ (q + 4 = 3) by omega)).symm))
     refine StepAll.cons (fun D s wx hR (hDi : D 11 = false) hd hsh a' hs K hK => ?_) ?_
     ·have e17 := hs.g 10 17 (.pointer (some ⟨s.1, 0, none⟩)) (hd ⟨10, .data⟩ (by simp) rfl)
      have e109 := hs.g 8 109 (.agg #[.int .i64 ys0, .slice s.2.1.1 s.2.1.2.1 s.2.1.2.2, .slice s.2.2.1.1 s.2.2.1.2.1 s.2.2.1.2.2, .slice s.2.2.2.1 s.2.2.2.2.1 s.2.2.2.2.2, .int .i64 yt]) (hd ⟨8, .data⟩ (by simp) rfl)
      clear hs
      have d10 : D 10 = true := hd ⟨10, .data⟩ (by simp) rfl
      have kb : Blk wx s.1 28 #[.int .i64 0, .slice none 0 0, .slice none 0 0, .slice none 0 0, .int .i64 0] := hR.blk 3 (by simp only [d10, hDi]; rfl)
      have f0 := kb.frozen
      have c0 : wx.cell? ⟨s.1, 0, none⟩ = some (.int .i64 0) := kb.cell 0
      have c1 : wx.cell? ⟨s.1, 1, none⟩ = some (.slice none 0 0) := kb.cell 1
      have c2 : wx.cell? ⟨s.1, 2, none⟩ = some (.slice none 0 0) := kb.cell 2
      have c3 : wx.cell? ⟨s.1, 3, none⟩ = some (.slice none 0 0) := kb.cell 3
      have c4 : wx.cell? ⟨s.1, 4, none⟩ = some (.int .i64 0) := kb.cell 4
      go_simp
      exact hK s _ (fun _ _ => rfl) ((hR.set5 3 (by simp only [d10, hDi]; rfl) _ _ _ _ _).congr
        (fun i => by
         match i with
         | 0 => rfl
         | 1 => rfl
         | 2 => rfl
         | 3 => (show (if D 10 = true then some (rBlk s.1 28 (if true = true then #[.int .i64 ys0, .slice s.2.1.1 s.2.1.2.1 s.2.1.2.2, .slice s.2.2.1.1 s.2.2.1.2.1 s.2.2.1.2.2, .slice s.2.2.2.1 s.2.2.2.2.1 s.2.2.2.2.2, .int .i64 yt] else #[.int .i64 0, .slice none 0 0, .slice none 0 0, .slice none 0 0, .int .i64 0])) else none) = some (rBlk s.1 28 #[.int .i64 ys0, .slice s.2.1.1 s.2.1.2.1 s.2.1.2.2, .slice s.2.2.1.1 s.2.2.1.2.1 s.2.2.1.2.2, .slice s.2.2.2.1 s.2.2.2.2.1 s.2.2.2.2.2, .int .i64 yt]); rw [d10]; rfl)
         | q + 4 => exact (if_neg (show ¬ (q + 4 = 3) by omega)).symm))
     refine StepAll.cons (fun D s wx hR (hDi : D 12 = false) hd hsh a' hs K hK => ?_) ?_
     ·have e110 := hs.g 9 110 (.string (ansA did)) (hd ⟨9, .data⟩ (by simp) rfl)
      clear hs
      go_simp
      exact hK s wx (fun _ _ => rfl) hR
     exact StepAll.nil
    ·intro D s wx hR hD
     simp only [putA, Act.put, List.setIfInBounds_toArray, List.set_cons_zero, List.set_cons_succ]
     obtain ⟨g17, ⟨Y1, p1, o1⟩, ⟨Y2, p2, o2⟩, Y3, p3, o3⟩ := s
     have HS9 : Hid (St wb wx [rBookOr wb (.agg #[.int .i64 xs0, .slice X1 i1 j1, .slice X2 i2 j2, .slice X3 i3 j3, .int .i64 xt]) x, rBlk g15 28 #[.int .i64 xs0, .slice X1 i1 j1, .slice X2 i2 j2, .slice X3 i3 j3, .int .i64 xt], rBook (.agg #[.int .i64 ys0, .slice Y1 p1 o1, .slice Y2 p2 o2, .slice Y3 p3 o3, .int .i64 yt]) y, rBlk g17 28 #[.int .i64 ys0, .slice Y1 p1 o1, .slice Y2 p2 o2, .slice Y3 p3 o3, .int .i64 yt]]) := Lib.hid (hR.to_st [0, 1, 2, 3] (by decide) (by simp only [List.map, hD 6 (by decide), hD 10 (by decide), hD 11 (by decide)] <;> rfl))
     clear hR hD HSV
     have q17 : ∀ j, wx.cell? ⟨g17, j, none⟩ = _ := HS9.out.cells 3 rfl
     have q15 : ∀ j, wx.cell? ⟨g15, j, none⟩ = _ := HS9.out.cells 1 rfl
     have f15 := HS9.out.free 1 rfl
     have HSN : Hid (St wb _ [rBookOr wb (.agg #[.int .i64 ys0, .slice Y1 p1 o1, .slice Y2 p2 o2, .slice Y3 p3 o3, .int .i64 yt]) y, rBlk g15 28 #[.int .i64 ys0, .slice Y1 p1 o1, .slice Y2 p2 o2, .slice Y3 p3 o3, .int .i64 yt]]) := Lib.hid ((HS9.out.set5 1 rfl (.int .i64 ys0) (.slice Y1 p1 o1) (.slice Y2 p2 o2) (.slice Y3 p3 o3) (.int .i64 yt)).pick [2, 1] (by decide) rfl rfl).newBook
     clear HS9
     cases did with
     | true =>
      simp only [ansA, if_true]
      go_wp2
      go_roundw
      case rel => exact ⟨k + 1, y, ys0, Y1, p1, o1, Y2, p2, o2, Y3, p3, o3, yt, by omega, by go_num, HXR2, HSN.out⟩
      case measure => simp [intOf]; omega
     | false =>
      have ha0 : ansA false = ⟨#[110, 111]⟩ := rfl
      rw [ha0]
      go_wp2
      go_roundw
      case rel => exact ⟨k + 1, y, ys0, Y1, p1, o1, Y2, p2, o2, Y3, p3, o3, yt, by omega, by go_num, HXR2, HSN.out⟩
      case measure => simp [intOf]; omega
end Go.Proofs.YtkmcengmglgdeaaGreatDoor
