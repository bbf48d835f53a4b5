
import Derived.Test.YtkmcengmglgdeaaGreatDoorSDoS
namespace Go.Proofs.YtkmcengmglgdeaaGreatDoor
set_option linter.unusedVariables false
set_option linter.unusedSimpArgs false
set_option maxRecDepth 100000
set_option maxHeartbeats 8000000
open Go.ChangeShapes Go.WideShapes Go.ChangeAt Go.RowKit
theorem bookRun_no {b : BookD} {aa : List ActD} (h : bookOk b = false ∨ ¬ aa.length ≤ 40) : bookRun b aa = (zeroB, 0) := by
 unfold bookRun
 rw [if_neg]
 rcases h with h | h <;> simp [h]
theorem bookRun_yes {b : BookD} {aa : List ActD} (h : bookOk b = true) (h' : aa.length ≤ 40) : bookRun b aa = runB b aa := by
 unfold bookRun; rw [if_pos (by simp [h, h'])]
theorem bookRun_impl (v : Value) (b : BookD) (A : Option Addr) (n c : Nat) (aa : List ActD) (w : World) (h : RdB w w.heap.size v b) (ha : RdA w w.heap.size A n c aa) (hwf : ∀ a ∈ aa, (Lit.int .i64 a.number).wf = true) :
  Calls Tryz.prog 39 #[v, .slice A n c] w (Gives w (fun v => .tuple #[v, .int .i64 ((bookRun b aa).2 : Nat)]) fun v => [rBook v (bookRun b aa).1]) := by
 obtain ⟨G, gn, gc, G', n', c', D', dn, dc, hv⟩ := h.form; subst hv; obtain ⟨hdn, hdl, hst, -⟩ := h.done; obtain ⟨os, hos⟩ : ∃ x, b.order.start = x := ⟨_, rfl⟩; obtain ⟨st, hstt⟩ : ∃ x, b.state = x := ⟨_, rfl⟩; have HBK := Lib.hid h; have HD := Lib.hid hdn; have HDL : Hid (b.done.length = dn) := Lib.hid hdn.len; have HOS := Bx.mk hos; have HSTT := Bx.mk hstt; have HA := Lib.hid ha; have HAL := Lib.hid ha.1; have HWF := Lib.hid hwf; have hacap := ha.2.cap; have hacm := ha.2.capMax
 unfold maxLen at hacm
 rw [hos, hstt] at HBK; rw [hos, hstt]
 have S0 : St w ((w.alloc (Obj.cells #[.int .i64 os, .slice G gn gc, .slice G' n' c', .slice D' dn dc, .int .i64 st] 28)).alloc (Obj.cells #[.int .i64 0, .slice none 0 0, .slice none 0 0, .slice none 0 0, .int .i64 0] 28)) [rBlk w.heap.size 28 #[.int .i64 os, .slice G gn gc, .slice G' n' c', .slice D' dn dc, .int .i64 st], rBlk (w.heap.size + 1) 28 #[.int .i64 0, .slice none 0 0, .slice none 0 0, .slice none 0 0, .int .i64 0]] := by
  have := ((St.refl w).alloc #[.int .i64 os, .slice G gn gc, .slice G' n' c', .slice D' dn dc, .int .i64 st] 28).alloc #[.int .i64 0, .slice none 0 0, .slice none 0 0, .slice none 0 0, .int .i64 0] 28
  simpa using this
 have HS0 := Lib.hid S0; obtain ⟨bo, hok⟩ : ∃ x, bookOk b = x := ⟨_, rfl⟩; have HOK := Bx.mk hok; clear S0 hdn h hos hstt hst hok ha hwf
 by_cases hcase : bo = false ∨ ¬ n ≤ 40
 ·have HE : Bx (bookRun b aa = (zeroB, 0)) := Bx.mk (bookRun_no (by rcases hcase with h | h; exact .inl (HOK.out.trans h); exact .inr (by rw [HAL.out]; exact h))); go_enter Tryz.func39, Tryz.ntmps39
  go_wp2_with fail
  refine (bookValid_impl _ b _ (HBK.out.up HS0.out.below)).mono ?_; rw [HOK.out]; rintro e w1 ⟨rfl, hb1⟩; have HS1 := Lib.hid (HS0.out.quiet hb1); have q1 := HS1.out.cells 1 rfl; have f1 := HS1.out.free 1 rfl; clear hb1
  cases bo with
  | false =>
   go_wp2; refine bodyPost_ret (v := .tuple #[.agg #[.int .i64 0, .slice none 0 0, .slice none 0 0, .slice none 0 0, .int .i64 0], .int .i64 0]) (by simp [results, Tryz.results39, go_sem, q1]) rfl ⟨.agg #[.int .i64 0, .slice none 0 0, .slice none 0 0, .slice none 0 0, .int .i64 0], by rw [HE.out]; rfl, ?_⟩; rw [HE.out]; exact St.book0 (HS1.out.set5 1 rfl _ _ _ _ _).below
  | true =>
   have hfar : (40 : Int) < (n : Int) := by rcases hcase with h | h; cases h; omega
   clear hcase; go_wp2; refine bodyPost_ret (v := .tuple #[.agg #[.int .i64 0, .slice none 0 0, .slice none 0 0, .slice none 0 0, .int .i64 0], .int .i64 0]) (by simp [results, Tryz.results39, go_sem, q1]) rfl ⟨.agg #[.int .i64 0, .slice none 0 0, .slice none 0 0, .slice none 0 0, .int .i64 0], by rw [HE.out]; rfl, ?_⟩; rw [HE.out]; exact St.book0 (HS1.out.set5 1 rfl _ _ _ _ _).below
 ·have hbo : bo = true := by cases bo <;> simp_all
  subst hbo; have hn40 : n ≤ 40 := by omega
  have hnear : ¬ (40 : Int) < (n : Int) := by omega
  have HY : Bx (bookRun b aa = runB b aa) := Bx.mk (bookRun_yes HOK.out (by rw [HAL.out]; exact hn40)); have HTK := Bx.mk (bookOk_parts HOK.out).1; have hd40 : dn ≤ 40 := by rw [← HDL.out]; exact (bookOk_parts HOK.out).2.1
  clear hcase; go_enter Tryz.func39, Tryz.ntmps39
  go_wp2_with fail
  refine (bookValid_impl _ b _ (HBK.out.up HS0.out.below)).mono ?_; rw [HOK.out]; rintro e w1 ⟨rfl, hb1⟩; have HS1 := Lib.hid (HS0.out.quiet hb1); have q1 := HS1.out.cells 0 rfl; clear hb1 HS0
  go_wp2_with fail
  refine (bookCopy_any _ b _ (HBK.out.up HS1.out.below)).mono ?_; rintro e w2 ⟨v2, rfl, s2⟩; obtain ⟨A1, n1, c1, A2, n2, c2, A3, n3, c3, hv⟩ := s2.formB 0 rfl; rw [HOS.out, HSTT.out] at hv; simp only [id_eq] at hv ⊢
  subst hv; obtain ⟨g6, hg6⟩ : ∃ g, w2.heap.size = g := ⟨_, rfl⟩; have HS2 : Hid (St w (w2.alloc (.cells #[.int .i64 os, .slice A1 n1 c1, .slice A2 n2 c2, .slice A3 n3 c3, .int .i64 st] 28)) [rBlk w.heap.size 28 #[.int .i64 os, .slice G gn gc, .slice G' n' c', .slice D' dn dc, .int .i64 st], rBlk (w.heap.size + 1) 28 #[.int .i64 0, .slice none 0 0, .slice none 0 0, .slice none 0 0, .int .i64 0], rBlk g6 28 #[.int .i64 os, .slice A1 n1 c1, .slice A2 n2 c2, .slice A3 n3 c3, .int .i64 st], rBook (.agg #[.int .i64 os, .slice A1 n1 c1, .slice A2 n2 c2, .slice A3 n3 c3, .int .i64 st]) b]) := Lib.hid (by rw [← hg6]; exact ((HS1.out.call s2).alloc _ _).pick [0, 1, 3, 2] (by decide) rfl rfl); clear s2 HS1 q1
  try rw [hg6]
  go_wp2
  go_loopw [25, 7] (fun i cv wr => ∃ (k cnt : Nat) (bk : BookD) (cs ct : Int) (B1 : Option Addr) (m1 d1 : Nat) (B2 : Option Addr) (m2 d2 : Nat) (B3 : Option Addr) (m3 d3 : Nat), k ≤ n ∧ cnt ≤ 40 ∧ i = .int .i64 k ∧ cv = .int .i64 cnt ∧ Bx (runK b aa k = (bk, cnt)) ∧ St w wr [rBlk w.heap.size 28 #[.int .i64 os, .slice G gn gc, .slice G' n' c', .slice D' dn dc, .int .i64 st], rBlk (w.heap.size + 1) 28 #[.int .i64 0, .slice none 0 0, .slice none 0 0, .slice none 0 0, .int .i64 0], rBlk g6 28 #[.int .i64 cs, .slice B1 m1 d1, .slice B2 m2 d2, .slice B3 m3 d3, .int .i64 ct], rBook (.agg #[.int .i64 cs, .slice B1 m1 d1, .slice B2 m2 d2, .slice B3 m3 d3, .int .i64 ct]) bk]) (fun i _ _ => n - (intOf i).toNat)
  case atStart => exact ⟨0, 0, b, os, st, _, _, _, _, _, _, _, _, _, by omega, by omega, rfl, rfl, Bx.mk (runK_zero b aa), by have h := HS2.out; first | exact h | (rw [← hg6] at h ⊢; exact h)⟩
  case round =>
   clear HS2; obtain ⟨k, cnt, bk, cs, ct, B1, m1, d1, B2, m2, d2, B3, m3, d3, hk, hcnt, rfl, rfl, HRK, S⟩ := hrel; have HS := Lib.hid S; have q6 := S.cells 2 rfl; have q5 := S.cells 1 rfl; have f6 := S.free 2 rfl; have f5 := S.free 1 rfl; clear S; have HKO := Bx.mk (runK_ok (b := b) aa k HOK.out); rw [HRK.out] at HKO
   by_cases hlt : k < n
   ·obtain ⟨ab, aoff, a, rfl, hab, hat, ha0, ha1⟩ := HA.out.get hlt; obtain ⟨ak, am⟩ := a; have HAB := Lib.hid hab; have HC0 := Lib.hid ha0; have HC1 := Lib.hid ha1; have HAW := Lib.hid (HWF.out _ (List.mem_of_getElem? hat)); have HKI : Hid ((k : Int) < (n : Int)) := Lib.hid (by omega); have HRK2 := Bx.mk (runK_step (b := b) hat); rw [HRK.out] at HRK2; have HKO2 := Bx.mk (runK_ok (b := b) aa (k + 1) HOK.out)
    simp only at HAW HC0 HC1
    obtain ⟨nb, hnb⟩ : ∃ x, bookDo bk ⟨ak, am⟩ = x := ⟨_, rfl⟩; obtain ⟨did, hdid⟩ : ∃ x, bookDid bk ⟨ak, am⟩ = x := ⟨_, rfl⟩; obtain ⟨ns, hns⟩ : ∃ x, nb.order.start = x := ⟨_, rfl⟩; obtain ⟨nt, hnt⟩ : ∃ x, nb.state = x := ⟨_, rfl⟩; have HNB := Bx.mk hnb; have HDID := Bx.mk hdid; have HNS := Bx.mk hns; have HNT := Bx.mk hnt; have HAL2 := HAL
    have hnn : bookDid bk ⟨ak, am⟩ = false → nb = bk := fun h => by
     rw [← hnb]; have hbk := HKO.out.1
     cases hd : doneAfter bk ⟨ak, am⟩ with
     | none => exact (bookDo_none hbk hd).1
     | some d => rw [(bookDo_some hbk hd).2] at h; cases h
    rw [HNB.out, HDID.out] at HRK2; rw [HRK2.out] at HKO2; have HNN := Bx.mk hnn; rw [HDID.out] at HNN; clear hnb hdid hns hnt hnn hab hat ha0 ha1; have r0 : wr.cell? ⟨ab, aoff + k * 2, none⟩ = some (.int .i64 ak) := (bcells HS.out.below ab _ HAB.out).trans HC0.out; have r1 : wr.cell? ⟨ab, aoff + k * 2 + 1, none⟩ = some (.int .i64 am) := (bcells HS.out.below ab _ HAB.out).trans HC1.out; have HS3 := Lib.hid ((HS.out.alloc #[.int .i64 ak, .int .i64 am] 64).pick [0, 1, 2, 3] (by decide) rfl rfl); have q3 := HS3.out.cells 2 rfl; have hki := HKI.out; clear HS f5 f6 q5
    go_wp2_with fail
    refine (bookDo_impl _ bk ak am _ (HS3.out.rdB 3 rfl) HAW.out).mono ?_; rw [HNB.out, HDID.out]; rintro e w4 ⟨v4, rfl, s4⟩; obtain ⟨N1, e1, u1, N2, e2, u2, N3, e3, u3, hv⟩ := s4.formB 0 rfl; rw [HNS.out, HNT.out] at hv; subst hv; obtain ⟨g9, hg9⟩ : ∃ g, w4.heap.size = g := ⟨_, rfl⟩; have HS7 : Hid (St w (w4.alloc (.cells #[.int .i64 ns, .slice N1 e1 u1, .slice N2 e2 u2, .slice N3 e3 u3, .int .i64 nt] 28)) [rBlk w.heap.size 28 #[.int .i64 os, .slice G gn gc, .slice G' n' c', .slice D' dn dc, .int .i64 st], rBlk (w.heap.size + 1) 28 #[.int .i64 0, .slice none 0 0, .slice none 0 0, .slice none 0 0, .int .i64 0], rBlk g6 28 #[.int .i64 cs, .slice B1 m1 d1, .slice B2 m2 d2, .slice B3 m3 d3, .int .i64 ct], rBook (.agg #[.int .i64 cs, .slice B1 m1 d1, .slice B2 m2 d2, .slice B3 m3 d3, .int .i64 ct]) bk, rBook (.agg #[.int .i64 ns, .slice N1 e1 u1, .slice N2 e2 u2, .slice N3 e3 u3, .int .i64 nt]) nb, rBlk g9 28 #[.int .i64 ns, .slice N1 e1 u1, .slice N2 e2 u2, .slice N3 e3 u3, .int .i64 nt]]) := Lib.hid (by rw [← hg9]; exact (HS3.out.call s4).alloc _ _); clear s4 HS3 r0 r1 q6 q3
    try rw [hg9]
    have q7 := HS7.out.cells 2 rfl; have q8 := HS7.out.cells 5 rfl; have f7 := HS7.out.free 2 rfl
    cases did with
    | false =>
     have HRK3 : Bx (runK b aa (k + 1) = (bk, cnt)) := Bx.mk (by rw [HRK2.out, HNN.out rfl]; rfl); have HS8 := Lib.hid (HS7.out.pick [0, 1, 2, 3] (by decide) rfl rfl); go_wp2
     go_roundw
     case rel => exact ⟨k + 1, cnt, bk, cs, ct, B1, m1, d1, B2, m2, d2, B3, m3, d3, by omega, hcnt, by go_num, rfl, HRK3, HS8.out⟩
     case measure => simp [intOf]; omega
    | true =>
     have HRK3 : Bx (runK b aa (k + 1) = (nb, cnt + 1)) := Bx.mk (by rw [HRK2.out]; rfl)
     have hcnt2 : cnt + 1 ≤ 40 := by
      have := (runK_ok (b := b) aa (k + 1) HOK.out).2.2
      rw [HRK3.out, HAL.out] at this; exact Nat.le_trans this hn40
     have hcnti : (cnt : Int) + 1 ≤ 40 := by omega
     have HS8 : Hid (St w ((((((w4.alloc (.cells #[.int .i64 ns, .slice N1 e1 u1, .slice N2 e2 u2, .slice N3 e3 u3, .int .i64 nt] 28)).setCell ⟨g6, 0, none⟩ (.int .i64 ns)).setCell ⟨g6, 1, none⟩ (.slice N1 e1 u1)).setCell ⟨g6, 2, none⟩ (.slice N2 e2 u2)).setCell ⟨g6, 3, none⟩ (.slice N3 e3 u3)).setCell ⟨g6, 4, none⟩ (.int .i64 nt)) [rBlk w.heap.size 28 #[.int .i64 os, .slice G gn gc, .slice G' n' c', .slice D' dn dc, .int .i64 st], rBlk (w.heap.size + 1) 28 #[.int .i64 0, .slice none 0 0, .slice none 0 0, .slice none 0 0, .int .i64 0], rBlk g6 28 #[.int .i64 ns, .slice N1 e1 u1, .slice N2 e2 u2, .slice N3 e3 u3, .int .i64 nt], rBook (.agg #[.int .i64 ns, .slice N1 e1 u1, .slice N2 e2 u2, .slice N3 e3 u3, .int .i64 nt]) nb]) := Lib.hid ((HS7.out.set5 2 rfl (.int .i64 ns) (.slice N1 e1 u1) (.slice N2 e2 u2) (.slice N3 e3 u3) (.int .i64 nt)).pick [0, 1, 2, 4] (by decide) rfl rfl); go_wp2
     go_roundw
     case rel => exact ⟨k + 1, cnt + 1, nb, ns, nt, N1, e1, u1, N2, e2, u2, N3, e3, u3, by omega, hcnt2, by go_num, by go_num, HRK3, HS8.out⟩
     case measure => simp [intOf]; omega
   ·obtain rfl : k = n := by omega
    have HE : Bx (runB b aa = (bk, cnt)) := Bx.mk (by rw [← HRK.out, runK_all b aa (by rw [HAL.out]; exact Nat.le_refl _)]); go_wp2; have HS9 := Lib.hid (HS.out.set5 1 rfl (.int .i64 cs) (.slice B1 m1 d1) (.slice B2 m2 d2) (.slice B3 m3 d3) (.int .i64 ct)); have q9 := HS9.out.cells 1 rfl; refine bodyPost_ret (v := .tuple #[.agg #[.int .i64 cs, .slice B1 m1 d1, .slice B2 m2 d2, .slice B3 m3 d3, .int .i64 ct], .int .i64 (cnt : Nat)]) (by simp [results, Tryz.results39, go_sem, q5, f5]) rfl ⟨.agg #[.int .i64 cs, .slice B1 m1 d1, .slice B2 m2 d2, .slice B3 m3 d3, .int .i64 ct], by rw [HY.out, HE.out], ?_⟩; rw [HY.out, HE.out]; exact HS9.out.pick [3] (by decide) rfl rfl
theorem bookRun_spec (v : Value) (b : BookD) (A : Option Addr) (n c : Nat) (aa : List ActD) (w : World) (h : RdB w w.heap.size v b) (ha : RdA w w.heap.size A n c aa) (hwf : ∀ a ∈ aa, (Lit.int .i64 a.number).wf = true) :
  Calls Tryz.prog 58 #[v, .slice A n c] w (Gives w (fun v => .tuple #[v, .int .i64 ((bookRun b aa).2 : Nat)]) fun v => [rBook v (bookRun b aa).1]) := by
 obtain ⟨G, gn, gc, G', n', c', D', dn, dc, hv⟩ := h.form; subst hv; obtain ⟨hdn, hdl, hst, -⟩ := h.done; obtain ⟨os, hos⟩ : ∃ x, b.order.start = x := ⟨_, rfl⟩; obtain ⟨st, hstt⟩ : ∃ x, b.state = x := ⟨_, rfl⟩; have HBK := Lib.hid h; have HD := Lib.hid hdn; have HDL : Hid (b.done.length = dn) := Lib.hid hdn.len; have HOS := Bx.mk hos; have HSTT := Bx.mk hstt; have HA := Lib.hid ha; have HAL := Lib.hid ha.1; have HWF := Lib.hid hwf; have hacap := ha.2.cap; have hacm := ha.2.capMax
 unfold maxLen at hacm
 rw [hos, hstt] at HBK; rw [hos, hstt]
 have S0 : St w ((w.alloc (Obj.cells #[.int .i64 os, .slice G gn gc, .slice G' n' c', .slice D' dn dc, .int .i64 st] 28)).alloc (Obj.cells #[.int .i64 0, .slice none 0 0, .slice none 0 0, .slice none 0 0, .int .i64 0] 28)) [rBlk w.heap.size 28 #[.int .i64 os, .slice G gn gc, .slice G' n' c', .slice D' dn dc, .int .i64 st], rBlk (w.heap.size + 1) 28 #[.int .i64 0, .slice none 0 0, .slice none 0 0, .slice none 0 0, .int .i64 0]] := by
  have := ((St.refl w).alloc #[.int .i64 os, .slice G gn gc, .slice G' n' c', .slice D' dn dc, .int .i64 st] 28).alloc #[.int .i64 0, .slice none 0 0, .slice none 0 0, .slice none 0 0, .int .i64 0] 28
  simpa using this
 have HS0 := Lib.hid S0; obtain ⟨bo, hok⟩ : ∃ x, bookOk b = x := ⟨_, rfl⟩; have HOK := Bx.mk hok; clear S0 hdn h hos hstt hst hok ha hwf
 by_cases hcase : bo = false ∨ ¬ n ≤ 40
 ·have HE : Bx (bookRun b aa = (zeroB, 0)) := Bx.mk (bookRun_no (by rcases hcase with h | h; exact .inl (HOK.out.trans h); exact .inr (by rw [HAL.out]; exact h))); go_enter Tryz.func58, Tryz.ntmps58
  go_wp2_with fail
  refine (bookValid_spec _ b _ (HBK.out.up HS0.out.below)).mono ?_; rw [HOK.out]; rintro e w1 ⟨rfl, hb1⟩; have HS1 := Lib.hid (HS0.out.quiet hb1); have q1 := HS1.out.cells 1 rfl; have f1 := HS1.out.free 1 rfl; clear hb1
  cases bo with
  | false =>
   go_wp2; refine bodyPost_ret (v := .tuple #[.agg #[.int .i64 0, .slice none 0 0, .slice none 0 0, .slice none 0 0, .int .i64 0], .int .i64 0]) (by simp [results, Tryz.results58, go_sem, q1]) rfl ⟨.agg #[.int .i64 0, .slice none 0 0, .slice none 0 0, .slice none 0 0, .int .i64 0], by rw [HE.out]; rfl, ?_⟩; rw [HE.out]; exact St.book0 (HS1.out.set5 1 rfl _ _ _ _ _).below
  | true =>
   have hfar : (40 : Int) < (n : Int) := by rcases hcase with h | h; cases h; omega
   clear hcase; go_wp2; refine bodyPost_ret (v := .tuple #[.agg #[.int .i64 0, .slice none 0 0, .slice none 0 0, .slice none 0 0, .int .i64 0], .int .i64 0]) (by simp [results, Tryz.results58, go_sem, q1]) rfl ⟨.agg #[.int .i64 0, .slice none 0 0, .slice none 0 0, .slice none 0 0, .int .i64 0], by rw [HE.out]; rfl, ?_⟩; rw [HE.out]; exact St.book0 (HS1.out.set5 1 rfl _ _ _ _ _).below
 ·have hbo : bo = true := by cases bo <;> simp_all
  subst hbo; have hn40 : n ≤ 40 := by omega
  have hnear : ¬ (40 : Int) < (n : Int) := by omega
  have HY : Bx (bookRun b aa = runB b aa) := Bx.mk (bookRun_yes HOK.out (by rw [HAL.out]; exact hn40)); have HTK := Bx.mk (bookOk_parts HOK.out).1; have hd40 : dn ≤ 40 := by rw [← HDL.out]; exact (bookOk_parts HOK.out).2.1
  clear hcase; go_enter Tryz.func58, Tryz.ntmps58
  go_wp2_with fail
  refine (bookValid_spec _ b _ (HBK.out.up HS0.out.below)).mono ?_; rw [HOK.out]; rintro e w1 ⟨rfl, hb1⟩; have HS1 := Lib.hid (HS0.out.quiet hb1); have q1 := HS1.out.cells 0 rfl; clear hb1 HS0
  go_wp2_with fail
  refine (l10Copy_any _ b D' dn dc b.done _ (HBK.out.up HS1.out.below) HTK.out (HD.out.up HS1.out.below) (by omega)).mono ?_; rw [withDone_self HOK.out]; rintro e w2 ⟨v2, rfl, s2⟩; obtain ⟨A1, n1, c1, A2, n2, c2, A3, n3, c3, hv⟩ := s2.formB 0 rfl; rw [HOS.out, HSTT.out] at hv; simp only [id_eq] at hv ⊢
  subst hv; obtain ⟨g6, hg6⟩ : ∃ g, w2.heap.size = g := ⟨_, rfl⟩; have HS2 : Hid (St w (w2.alloc (.cells #[.int .i64 os, .slice A1 n1 c1, .slice A2 n2 c2, .slice A3 n3 c3, .int .i64 st] 28)) [rBlk w.heap.size 28 #[.int .i64 os, .slice G gn gc, .slice G' n' c', .slice D' dn dc, .int .i64 st], rBlk (w.heap.size + 1) 28 #[.int .i64 0, .slice none 0 0, .slice none 0 0, .slice none 0 0, .int .i64 0], rBlk g6 28 #[.int .i64 os, .slice A1 n1 c1, .slice A2 n2 c2, .slice A3 n3 c3, .int .i64 st], rBook (.agg #[.int .i64 os, .slice A1 n1 c1, .slice A2 n2 c2, .slice A3 n3 c3, .int .i64 st]) b]) := Lib.hid (by rw [← hg6]; exact ((HS1.out.call s2).alloc _ _).pick [0, 1, 3, 2] (by decide) rfl rfl); clear s2 HS1 q1
  try rw [hg6]
  go_wp2
  go_loopw [8, 7] (fun i cv wr => ∃ (k cnt : Nat) (bk : BookD) (cs ct : Int) (B1 : Option Addr) (m1 d1 : Nat) (B2 : Option Addr) (m2 d2 : Nat) (B3 : Option Addr) (m3 d3 : Nat), k ≤ n ∧ cnt ≤ 40 ∧ i = .int .i64 k ∧ cv = .int .i64 cnt ∧ Bx (runK b aa k = (bk, cnt)) ∧ St w wr [rBlk w.heap.size 28 #[.int .i64 os, .slice G gn gc, .slice G' n' c', .slice D' dn dc, .int .i64 st], rBlk (w.heap.size + 1) 28 #[.int .i64 0, .slice none 0 0, .slice none 0 0, .slice none 0 0, .int .i64 0], rBlk g6 28 #[.int .i64 cs, .slice B1 m1 d1, .slice B2 m2 d2, .slice B3 m3 d3, .int .i64 ct], rBook (.agg #[.int .i64 cs, .slice B1 m1 d1, .slice B2 m2 d2, .slice B3 m3 d3, .int .i64 ct]) bk]) (fun i _ _ => n - (intOf i).toNat)
  case atStart => exact ⟨0, 0, b, os, st, _, _, _, _, _, _, _, _, _, by omega, by omega, rfl, rfl, Bx.mk (runK_zero b aa), by have h := HS2.out; first | exact h | (rw [← hg6] at h ⊢; exact h)⟩
  case round =>
   clear HS2; obtain ⟨k, cnt, bk, cs, ct, B1, m1, d1, B2, m2, d2, B3, m3, d3, hk, hcnt, rfl, rfl, HRK, S⟩ := hrel; have HS := Lib.hid S; have q6 := S.cells 2 rfl; have q5 := S.cells 1 rfl; have f6 := S.free 2 rfl; have f5 := S.free 1 rfl; clear S; have HKO := Bx.mk (runK_ok (b := b) aa k HOK.out); rw [HRK.out] at HKO
   by_cases hlt : k < n
   ·obtain ⟨ab, aoff, a, rfl, hab, hat, ha0, ha1⟩ := HA.out.get hlt; obtain ⟨ak, am⟩ := a; have HAB := Lib.hid hab; have HC0 := Lib.hid ha0; have HC1 := Lib.hid ha1; have HAW := Lib.hid (HWF.out _ (List.mem_of_getElem? hat)); have HKI : Hid ((k : Int) < (n : Int)) := Lib.hid (by omega); have HRK2 := Bx.mk (runK_step (b := b) hat); rw [HRK.out] at HRK2; have HKO2 := Bx.mk (runK_ok (b := b) aa (k + 1) HOK.out)
    simp only at HAW HC0 HC1
    obtain ⟨nb, hnb⟩ : ∃ x, bookDo bk ⟨ak, am⟩ = x := ⟨_, rfl⟩; obtain ⟨did, hdid⟩ : ∃ x, bookDid bk ⟨ak, am⟩ = x := ⟨_, rfl⟩; obtain ⟨ns, hns⟩ : ∃ x, nb.order.start = x := ⟨_, rfl⟩; obtain ⟨nt, hnt⟩ : ∃ x, nb.state = x := ⟨_, rfl⟩; have HNB := Bx.mk hnb; have HDID := Bx.mk hdid; have HNS := Bx.mk hns; have HNT := Bx.mk hnt; have HAL2 := HAL
    have hnn : bookDid bk ⟨ak, am⟩ = false → nb = bk := fun h => by
     rw [← hnb]; have hbk := HKO.out.1
     cases hd : doneAfter bk ⟨ak, am⟩ with
     | none => exact (bookDo_none hbk hd).1
     | some d => rw [(bookDo_some hbk hd).2] at h; cases h
    rw [HNB.out, HDID.out] at HRK2; rw [HRK2.out] at HKO2; have HNN := Bx.mk hnn; rw [HDID.out] at HNN; clear hnb hdid hns hnt hnn hab hat ha0 ha1; have hki := HKI.out
    go_upto_region 8 with (fail)
    clear q5 q6 f5 f6
    refine wpr (σ := ((Option Addr × Nat × Nat) × (Option Addr × Nat × Nat) × (Option Addr × Nat × Nat)) × Nat)
     (fun s i => match i with
      | 0 => .agg #[.int .i64 cs, .slice B1 m1 d1, .slice B2 m2 d2, .slice B3 m3 d3, .int .i64 ct]
      | 1 => .slice (some ⟨ab, aoff, none⟩) n c
      | 2 => .int .i64 (k : Int)
      | 3 => .pointer (some ⟨ab, (aoff + k * 2), none⟩)
      | 4 => .agg #[.int .i64 ak, .int .i64 am]
      | 5 => .tuple #[.agg #[.int .i64 ns, .slice s.1.1.1 s.1.1.2.1 s.1.1.2.2, .slice s.1.2.1.1 s.1.2.1.2.1 s.1.2.1.2.2, .slice s.1.2.2.1 s.1.2.2.2.1 s.1.2.2.2.2, .int .i64 nt], .bool did]
      | 6 => .tuple #[.agg #[.int .i64 ns, .slice s.1.1.1 s.1.1.2.1 s.1.1.2.2, .slice s.1.2.1.1 s.1.2.1.2.1 s.1.2.1.2.2, .slice s.1.2.2.1 s.1.2.2.2.1 s.1.2.2.2.2, .int .i64 nt], .bool did]
      | 7 => .agg #[.int .i64 ns, .slice s.1.1.1 s.1.1.2.1 s.1.1.2.2, .slice s.1.2.1.1 s.1.2.1.2.1 s.1.2.1.2.2, .slice s.1.2.2.1 s.1.2.2.2.1 s.1.2.2.2.2, .int .i64 nt]
      | 8 => .bool did
      | 9 => .pointer (some ⟨s.2, 0, none⟩)
      | 11 => .bool did
      | _ => undef)
     (fun D s wy => Sn w wy fun i => match i with
      | 0 => some (rBlk w.heap.size 28 #[.int .i64 os, .slice G gn gc, .slice G' n' c', .slice D' dn dc, .int .i64 st])
      | 1 => some (rBlk (w.heap.size + 1) 28 #[.int .i64 0, .slice none 0 0, .slice none 0 0, .slice none 0 0, .int .i64 0])
      | 2 => some (rBlk g6 28 #[.int .i64 cs, .slice B1 m1 d1, .slice B2 m2 d2, .slice B3 m3 d3, .int .i64 ct])
      | 3 => some (rBook (.agg #[.int .i64 cs, .slice B1 m1 d1, .slice B2 m2 d2, .slice B3 m3 d3, .int .i64 ct]) bk)
      | 4 => if D 5 = true then some (rBook (.agg #[.int .i64 ns, .slice s.1.1.1 s.1.1.2.1 s.1.1.2.2, .slice s.1.2.1.1 s.1.2.1.2.1 s.1.2.1.2.2, .slice s.1.2.2.1 s.1.2.2.2.1 s.1.2.2.2.2, .int .i64 nt]) nb) else none
      | 5 => if D 9 = true then some (rBlk s.2 28 (if D 10 = true then #[.int .i64 ns, .slice s.1.1.1 s.1.1.2.1 s.1.1.2.2, .slice s.1.2.1.1 s.1.2.1.2.1 s.1.2.1.2.2, .slice s.1.2.2.1 s.1.2.2.2.1 s.1.2.2.2.2, .int .i64 nt] else #[.int .i64 0, .slice none 0 0, .slice none 0 0, .slice none 0 0, .int .i64 0])) else none
      | _ => none)
     (((none, 0, 0), (none, 0, 0), (none, 0, 0)), 0) ?_ ?_ ?_
    ·intro D hD; refine ((Sn.of_st HS.out).quiet ((Below.refl _ _).drew)).congr fun i => ?_
     match i with
     | 0 | 1 | 2 | 3 => rfl
     | 4 => simp only [hD 5 (by decide)]; rfl
     | 5 => simp only [hD 9 (by decide)]; rfl
     | q + 6 => rfl
    ·refine Cs (fun D s wy hR _ hd _ _ hs K hK => ?_) ?_
     ·have e6 := hs.o 6 (.pointer (some ⟨g6, 0, none⟩)); clear hs; have qk := (hR.blk 2 rfl).cell; go_simp; exact hK s wy sv hR
     refine Cs (fun D s wy hR _ hd _ _ hs K hK => ?_) ?_
     ·have e1 := hs.o 1 (.slice (some ⟨ab, aoff, none⟩) n c); clear hs; go_simp; exact hK s wy sv hR
     refine Cs (fun D s wy hR _ hd _ _ hs K hK => ?_) ?_
     ·have e8 := hs.o 8 (.int .i64 (k : Int)); clear hs; go_simp; exact hK s wy sv hR
     refine Cs (fun D s wy hR _ hd _ _ hs K hK => ?_) ?_
     ·have e32 := hs.v 1 32 hd; have e33 := hs.v 2 33 hd; clear hs; have hki := HKI.out; go_simp; exact hK s wy sv hR
     refine Cs (fun D s wy hR _ hd _ _ hs K hK => ?_) ?_
     ·have e34 := hs.v 3 34 hd; clear hs; have c0 : wy.cell? ⟨ab, aoff + k * 2, none⟩ = some (.int .i64 ak) := (bcells hR.below ab _ HAB.out).trans HC0.out; have c1 : wy.cell? ⟨ab, aoff + k * 2 + 1, none⟩ = some (.int .i64 am) := (bcells hR.below ab _ HAB.out).trans HC1.out; go_simp; exact hK s wy sv hR
     refine Cs (fun D s wy hR (hDi : D 5 = false) hd hsh _ hs K hK => ?_) ?_
     ·have e31 := hs.v 0 31 hd; have e35 := hs.v 4 35 hd; have g31 := getQ e31; have g35 := getQ e35; clear hs; have n6 : D 6 = false := hsh.no hDi 6 rfl ⟨5, .data⟩ (by simp) rfl rfl; have n7 : D 7 = false := hsh.no n6 7 rfl ⟨6, .data⟩ (by simp) rfl rfl; have n8 : D 8 = false := hsh.no n6 8 rfl ⟨6, .data⟩ (by simp) rfl rfl; have n10 : D 10 = false := hsh.no n7 10 rfl ⟨7, .data⟩ (by simp) rfl rfl; have n11 : D 11 = false := hsh.no n8 11 rfl ⟨8, .data⟩ (by simp) rfl rfl; go_simp; refine (bookDo_spec _ bk ak am _ (hR.rdB 3 rfl) HAW.out).mono ?_; rw [HNB.out, HDID.out]; rintro e2 w2 ⟨v2, rfl, s2⟩; obtain ⟨A1, n1, c1, A2, n2, c2, A3, n3, c3, hv⟩ := s2.formB 0 rfl; rw [HNS.out, HNT.out] at hv; subst hv
      refine hK (((A1, n1, c1), (A2, n2, c2), (A3, n3, c3)), s.2) w2
       (fun j hj => by
        match j, hj with
        | 0, hj | 1, hj | 2, hj | 3, hj | 4, hj => rfl
        | 5, hj => rw [hDi] at hj; cases hj
        | 6, hj => rw [n6] at hj; cases hj
        | 7, hj => rw [n7] at hj; cases hj
        | 8, hj => rw [n8] at hj; cases hj
        | 9, hj => rfl
        | 10, hj => rw [n10] at hj; cases hj
        | 11, hj => rw [n11] at hj; cases hj
        | _ + 12, hj => rfl)
       ((hR.add 4 (if_neg (by rw [hDi]; simp)) s2).congr
        (fun i => by
         match i with
         | 0 | 1 | 2 | 3 | 4 => rfl
         | 5 => (show (if D 9 = true then some (rBlk _ _ (if D 10 = true then _ else _)) else none) = (if D 9 = true then some (rBlk _ _ (if D 10 = true then _ else _)) else none); rw [n10] <;> rfl)
         | q + 6 => exact (if_neg (show ¬ (q + 6 = 4) by omega)).symm))
     refine Cs (fun D s wy hR _ hd _ _ hs K hK => ?_) ?_
     ·have e36 := hs.v 5 36 hd; clear hs; go_simp; exact hK s wy sv hR
     refine Cs (fun D s wy hR _ hd _ _ hs K hK => ?_) ?_
     ·have e30 := hs.v 6 30 hd; clear hs; go_simp; exact hK s wy sv hR
     refine Cs (fun D s wy hR _ hd _ _ hs K hK => ?_) ?_
     ·have e30 := hs.v 6 30 hd; clear hs; go_simp; exact hK s wy sv hR
     refine Cs (fun D s wy hR (hDi : D 9 = false) hd hsh _ hs K hK => ?_) ?_
     ·clear hs; have n10 : D 10 = false := hsh.no hDi 10 rfl ⟨9, .data⟩ (by simp) rfl rfl; go_simp
      refine hK (s.1, wy.heap.size) _
       (fun j hj => by
        match j, hj with
        | 0, hj | 1, hj | 2, hj | 3, hj | 4, hj | 5, hj | 6, hj | 7, hj | 8, hj => rfl
        | 9, hj => rw [hDi] at hj; cases hj
        | 10, hj | 11, hj => rfl
        | _ + 12, hj => rfl)
       ((hR.add 5 (if_neg (by rw [hDi]; simp)) (St.new1 wy #[.int .i64 0, .slice none 0 0, .slice none 0 0, .slice none 0 0, .int .i64 0] 28)).congr
        (fun i => by
         match i with
         | 0 | 1 | 2 | 3 | 4 => rfl
         | 5 => (show some (rBlk _ _ (if D 10 = true then _ else _)) = some (rBlk _ _ _); rw [n10] <;> rfl)
         | q + 6 => exact (if_neg (show ¬ (q + 6 = 5) by omega)).symm))
     refine Cs (fun D s wy hR (hDi : D 10 = false) hd _ _ hs K hK => ?_) ?_
     ·have e9 := hs.v 9 9 hd; have e37 := hs.v 7 37 hd; clear hs; have d9 : D 9 = true := hd ⟨9, .data⟩ (by simp) rfl; have kb : Blk wy s.2 28 #[.int .i64 0, .slice none 0 0, .slice none 0 0, .slice none 0 0, .int .i64 0] := hR.blk 5 (by simp only [d9, hDi] <;> rfl); have f0 := kb.frozen; have qk := kb.cell; go_simp
      exact hK s _ sv ((hR.set5 5 (by simp only [d9, hDi]; rfl) _ _ _ _ _).congr
        (fun i => by
         match i with
         | 0 | 1 | 2 | 3 | 4 => rfl
         | 5 => (show (if D 9 = true then some (rBlk _ _ _) else none) = some (rBlk _ _ _); rw [d9]; rfl)
         | q + 6 => exact (if_neg (show ¬ (q + 6 = 5) by omega)).symm))
     refine Cs (fun D s wy hR _ hd _ _ hs K hK => ?_) ?_
     ·have e38 := hs.v 8 38 hd; clear hs; go_simp; exact hK s wy sv hR
     exact StepAll.nil
    ·intro D s wy hR hD; simp only [putA, Act.put, List.setIfInBounds_toArray, List.set_cons_zero, List.set_cons_succ]; have HS7' := hR.to_st [0, 1, 2, 3, 4, 5] (L := [rBlk w.heap.size 28 #[.int .i64 os, .slice G gn gc, .slice G' n' c', .slice D' dn dc, .int .i64 st], rBlk (w.heap.size + 1) 28 #[.int .i64 0, .slice none 0 0, .slice none 0 0, .slice none 0 0, .int .i64 0], rBlk g6 28 #[.int .i64 cs, .slice B1 m1 d1, .slice B2 m2 d2, .slice B3 m3 d3, .int .i64 ct], rBook (.agg #[.int .i64 cs, .slice B1 m1 d1, .slice B2 m2 d2, .slice B3 m3 d3, .int .i64 ct]) bk, rBook (.agg #[.int .i64 ns, .slice s.1.1.1 s.1.1.2.1 s.1.1.2.2, .slice s.1.2.1.1 s.1.2.1.2.1 s.1.2.1.2.2, .slice s.1.2.2.1 s.1.2.2.2.1 s.1.2.2.2.2, .int .i64 nt]) nb, rBlk s.2 28 #[.int .i64 ns, .slice s.1.1.1 s.1.1.2.1 s.1.1.2.2, .slice s.1.2.1.1 s.1.2.1.2.1 s.1.2.1.2.2, .slice s.1.2.2.1 s.1.2.2.2.1 s.1.2.2.2.2, .int .i64 nt]]) (by decide) (by simp only [List.map, hD 5 (by decide), hD 9 (by decide), hD 10 (by decide)] <;> rfl); obtain ⟨⟨⟨N1, e1, u1⟩, ⟨N2, e2, u2⟩, ⟨N3, e3, u3⟩⟩, g9⟩ := s; have HS7 : Hid (St w wy [rBlk w.heap.size 28 #[.int .i64 os, .slice G gn gc, .slice G' n' c', .slice D' dn dc, .int .i64 st], rBlk (w.heap.size + 1) 28 #[.int .i64 0, .slice none 0 0, .slice none 0 0, .slice none 0 0, .int .i64 0], rBlk g6 28 #[.int .i64 cs, .slice B1 m1 d1, .slice B2 m2 d2, .slice B3 m3 d3, .int .i64 ct], rBook (.agg #[.int .i64 cs, .slice B1 m1 d1, .slice B2 m2 d2, .slice B3 m3 d3, .int .i64 ct]) bk, rBook (.agg #[.int .i64 ns, .slice N1 e1 u1, .slice N2 e2 u2, .slice N3 e3 u3, .int .i64 nt]) nb, rBlk g9 28 #[.int .i64 ns, .slice N1 e1 u1, .slice N2 e2 u2, .slice N3 e3 u3, .int .i64 nt]]) := Lib.hid HS7'; clear hR hD HS HS7'; have q7 := HS7.out.cells 2 rfl; have q8 := HS7.out.cells 5 rfl; have f7 := HS7.out.free 2 rfl
     cases did with
     | false =>
      have HRK3 : Bx (runK b aa (k + 1) = (bk, cnt)) := Bx.mk (by rw [HRK2.out, HNN.out rfl]; rfl); have HS8 := Lib.hid (HS7.out.pick [0, 1, 2, 3] (by decide) rfl rfl); go_wp2
      go_roundw
      case rel => exact ⟨k + 1, cnt, bk, cs, ct, B1, m1, d1, B2, m2, d2, B3, m3, d3, by omega, hcnt, by go_num, rfl, HRK3, HS8.out⟩
      case measure => simp [intOf]; omega
     | true =>
      have HRK3 : Bx (runK b aa (k + 1) = (nb, cnt + 1)) := Bx.mk (by rw [HRK2.out]; rfl)
      have hcnt2 : cnt + 1 ≤ 40 := by
       have := (runK_ok (b := b) aa (k + 1) HOK.out).2.2
       rw [HRK3.out, HAL.out] at this; exact Nat.le_trans this hn40
      have hcnti : (cnt : Int) + 1 ≤ 40 := by omega
      have HS8 : Hid (St w (((((wy.setCell ⟨g6, 0, none⟩ (.int .i64 ns)).setCell ⟨g6, 1, none⟩ (.slice N1 e1 u1)).setCell ⟨g6, 2, none⟩ (.slice N2 e2 u2)).setCell ⟨g6, 3, none⟩ (.slice N3 e3 u3)).setCell ⟨g6, 4, none⟩ (.int .i64 nt)) [rBlk w.heap.size 28 #[.int .i64 os, .slice G gn gc, .slice G' n' c', .slice D' dn dc, .int .i64 st], rBlk (w.heap.size + 1) 28 #[.int .i64 0, .slice none 0 0, .slice none 0 0, .slice none 0 0, .int .i64 0], rBlk g6 28 #[.int .i64 ns, .slice N1 e1 u1, .slice N2 e2 u2, .slice N3 e3 u3, .int .i64 nt], rBook (.agg #[.int .i64 ns, .slice N1 e1 u1, .slice N2 e2 u2, .slice N3 e3 u3, .int .i64 nt]) nb]) := Lib.hid ((HS7.out.set5 2 rfl (.int .i64 ns) (.slice N1 e1 u1) (.slice N2 e2 u2) (.slice N3 e3 u3) (.int .i64 nt)).pick [0, 1, 2, 4] (by decide) rfl rfl); go_wp2
      go_roundw
      case rel => exact ⟨k + 1, cnt + 1, nb, ns, nt, N1, e1, u1, N2, e2, u2, N3, e3, u3, by omega, hcnt2, by go_num, by go_num, HRK3, HS8.out⟩
      case measure => simp [intOf]; omega
   ·obtain rfl : k = n := by omega
    have HE : Bx (runB b aa = (bk, cnt)) := Bx.mk (by rw [← HRK.out, runK_all b aa (by rw [HAL.out]; exact Nat.le_refl _)]); go_wp2; have HS9 := Lib.hid (HS.out.set5 1 rfl (.int .i64 cs) (.slice B1 m1 d1) (.slice B2 m2 d2) (.slice B3 m3 d3) (.int .i64 ct)); have q9 := HS9.out.cells 1 rfl; refine bodyPost_ret (v := .tuple #[.agg #[.int .i64 cs, .slice B1 m1 d1, .slice B2 m2 d2, .slice B3 m3 d3, .int .i64 ct], .int .i64 (cnt : Nat)]) (by simp [results, Tryz.results58, go_sem, q5, f5]) rfl ⟨.agg #[.int .i64 cs, .slice B1 m1 d1, .slice B2 m2 d2, .slice B3 m3 d3, .int .i64 ct], by rw [HY.out, HE.out], ?_⟩; rw [HY.out, HE.out]; exact HS9.out.pick [3] (by decide) rfl rfl
end Go.Proofs.YtkmcengmglgdeaaGreatDoor
