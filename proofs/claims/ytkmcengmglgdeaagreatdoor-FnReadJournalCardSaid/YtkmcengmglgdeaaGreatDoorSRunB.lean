/- Joined texts: RunB, ActsH, Pick, Pack. -/
import Derived.Test.YtkmcengmglgdeaaGreatDoorSDoS
import Derived.Test.YtkmcengmglgdeaaGreatDoorSRest
import Derived.Test.YtkmcengmglgdeaaGreatDoorSPush
import Derived.Test.YtkmcengmglgdeaaGreatDoorSBack
import Derived.Laws.StructEq
import Derived.Test.YtkmcengmglgdeaaGreatDoorSDraw
import Derived.Test.YtkmcengmglgdeaaGreatDoorSDoI2
/- BookRun of the program and of the reference. Printed by gen_runb.py out of XRunB.src. -/
namespace Go.Proofs.YtkmcengmglgdeaaGreatDoor
set_option linter.unusedVariables false
set_option linter.unusedSimpArgs false
open Go.ChangeShapes Go.WideShapes Go.ChangeAt Go.RowKit

theorem bookRun_no {b : BookD} {aa : List ActD} (h : bookOk b = false ∨ ¬ aa.length ≤ 40) : bookRun b aa = (zeroB, 0) := by
 unfold bookRun
 rw [if_neg]
 rcases h with h | h <;> simp [h]
theorem bookRun_yes {b : BookD} {aa : List ActD} (h : bookOk b = true) (h' : aa.length ≤ 40) : bookRun b aa = runB b aa := by
 unfold bookRun; rw [if_pos (by simp [h, h'])]
set_option maxRecDepth 100000 in
set_option maxHeartbeats 2000000 in
theorem bookRun_impl (v : Value) (b : BookD) (A : Option Addr) (n c : Nat) (aa : List ActD) (w : World) (h : RdB w w.heap.size v b) (ha : RdA w w.heap.size A n c aa) (hwf : ∀ a ∈ aa, (Lit.int .i64 a.number).wf = true) :
  Calls Tryz.prog 39 #[v, .slice A n c] w (Gives w (fun v => .tuple #[v, .int .i64 ((bookRun b aa).2 : Nat)]) fun v => [rBook v (bookRun b aa).1]) := by
 obtain ⟨G, gn, gc, G', n', c', D', dn, dc, hv⟩ := h.form
 subst hv
 obtain ⟨hdn, hdl, hst, -⟩ := h.done
 obtain ⟨os, hos⟩ : ∃ x, b.order.start = x := ⟨_, rfl⟩
 obtain ⟨st, hstt⟩ : ∃ x, b.state = x := ⟨_, rfl⟩
 have HBK := Lib.hid h
 have HD := Lib.hid hdn
 have HDL : Hid (b.done.length = dn) := Lib.hid hdn.len
 have HOS := Bx.mk hos
 have HSTT := Bx.mk hstt
 have HA := Lib.hid ha
 have HAL := Lib.hid ha.1
 have HWF := Lib.hid hwf
 have hacap := ha.2.cap
 have hacm := ha.2.capMax
 unfold maxLen at hacm
 rw [hos, hstt] at HBK
 rw [hos, hstt]
 have S0 : St w ((w.alloc (Obj.cells #[.int .i64 os, .slice G gn gc, .slice G' n' c', .slice D' dn dc, .int .i64 st] 28)).alloc (Obj.cells #[.int .i64 0, .slice none 0 0, .slice none 0 0, .slice none 0 0, .int .i64 0] 28)) [rBlk w.heap.size 28 #[.int .i64 os, .slice G gn gc, .slice G' n' c', .slice D' dn dc, .int .i64 st], rBlk (w.heap.size + 1) 28 #[.int .i64 0, .slice none 0 0, .slice none 0 0, .slice none 0 0, .int .i64 0]] := by
  have := ((St.refl w).alloc #[.int .i64 os, .slice G gn gc, .slice G' n' c', .slice D' dn dc, .int .i64 st] 28).alloc #[.int .i64 0, .slice none 0 0, .slice none 0 0, .slice none 0 0, .int .i64 0] 28
  simpa using this
 have HS0 := Lib.hid S0
 obtain ⟨bo, hok⟩ : ∃ x, bookOk b = x := ⟨_, rfl⟩
 have HOK := Bx.mk hok
 clear S0 hdn h hos hstt hst hok ha hwf
 by_cases hcase : bo = false ∨ ¬ n ≤ 40
 ·have HE : Bx (bookRun b aa = (zeroB, 0)) := Bx.mk (bookRun_no (by rcases hcase with h | h; exact .inl (HOK.out.trans h); exact .inr (by rw [HAL.out]; exact h)))
  go_enter Tryz.func39, Tryz.ntmps39
  go_wp2_with fail
  refine (bookValid_impl _ b _ (HBK.out.up HS0.out.below)).mono ?_
  rw [HOK.out]
  rintro e w1 ⟨rfl, hb1⟩
  have HS1 := Lib.hid (HS0.out.quiet hb1)
  have q1 : ∀ j, w1.cell? ⟨w.heap.size + 1, j, none⟩ = _ := HS1.out.cells 1 rfl
  have f1 := HS1.out.free 1 rfl
  clear hb1
  cases bo with
  | false =>
   go_wp2
   refine bodyPost_ret (v := .tuple #[.agg #[.int .i64 0, .slice none 0 0, .slice none 0 0, .slice none 0 0, .int .i64 0], .int .i64 0]) (by simp [results, Tryz.results39, go_sem, q1]) rfl ⟨.agg #[.int .i64 0, .slice none 0 0, .slice none 0 0, .slice none 0 0, .int .i64 0], by rw [HE.out]; rfl, ?_⟩
   rw [HE.out]
   exact St.book0 (HS1.out.set5 1 rfl _ _ _ _ _).below
  | true =>
   have hfar : (40 : Int) < (n : Int) := by rcases hcase with h | h; cases h; omega
   clear hcase
   go_wp2
   refine bodyPost_ret (v := .tuple #[.agg #[.int .i64 0, .slice none 0 0, .slice none 0 0, .slice none 0 0, .int .i64 0], .int .i64 0]) (by simp [results, Tryz.results39, go_sem, q1]) rfl ⟨.agg #[.int .i64 0, .slice none 0 0, .slice none 0 0, .slice none 0 0, .int .i64 0], by rw [HE.out]; rfl, ?_⟩
   rw [HE.out]
   exact St.book0 (HS1.out.set5 1 rfl _ _ _ _ _).below
 ·have hbo : bo = true := by cases bo <;> simp_all
  subst hbo
  have hn40 : n ≤ 40 := by omega
  have hnear : ¬ (40 : Int) < (n : Int) := by omega
  have HY : Bx (bookRun b aa = runB b aa) := Bx.mk (bookRun_yes HOK.out (by rw [HAL.out]; exact hn40))
  have HTK := Bx.mk (bookOk_parts HOK.out).1
  have hd40 : dn ≤ 40 := by rw [← HDL.out]; exact (bookOk_parts HOK.out).2.1
  clear hcase
  go_enter Tryz.func39, Tryz.ntmps39
  go_wp2_with fail
  refine (bookValid_impl _ b _ (HBK.out.up HS0.out.below)).mono ?_
  rw [HOK.out]
  rintro e w1 ⟨rfl, hb1⟩
  have HS1 := Lib.hid (HS0.out.quiet hb1)
  have q1 : ∀ j, w1.cell? ⟨w.heap.size, j, none⟩ = _ := HS1.out.cells 0 rfl
  clear hb1 HS0
  go_wp2_with fail
  refine (bookCopy_any _ b _ (HBK.out.up HS1.out.below)).mono ?_
  rintro e w2 ⟨v2, rfl, s2⟩
  obtain ⟨A1, n1, c1, A2, n2, c2, A3, n3, c3, hv⟩ := s2.formB 0 rfl
  rw [HOS.out, HSTT.out] at hv
  simp only [id_eq] at hv ⊢
  subst hv
  obtain ⟨g6, hg6⟩ : ∃ g, w2.heap.size = g := ⟨_, rfl⟩
  have HS2 : Hid (St w (w2.alloc (.cells #[.int .i64 os, .slice A1 n1 c1, .slice A2 n2 c2, .slice A3 n3 c3, .int .i64 st] 28)) [rBlk w.heap.size 28 #[.int .i64 os, .slice G gn gc, .slice G' n' c', .slice D' dn dc, .int .i64 st], rBlk (w.heap.size + 1) 28 #[.int .i64 0, .slice none 0 0, .slice none 0 0, .slice none 0 0, .int .i64 0], rBlk g6 28 #[.int .i64 os, .slice A1 n1 c1, .slice A2 n2 c2, .slice A3 n3 c3, .int .i64 st], rBook (.agg #[.int .i64 os, .slice A1 n1 c1, .slice A2 n2 c2, .slice A3 n3 c3, .int .i64 st]) b]) := Lib.hid (by rw [← hg6]; exact ((HS1.out.call s2).alloc _ _).pick [0, 1, 3, 2] (by decide) rfl rfl)
  clear s2 HS1 q1
  try rw [hg6]
  go_wp2
  go_loopw [25, 7] (fun i cv wr => ∃ (k cnt : Nat) (bk : BookD) (cs ct : Int) (B1 : Option Addr) (m1 d1 : Nat) (B2 : Option Addr) (m2 d2 : Nat) (B3 : Option Addr) (m3 d3 : Nat), k ≤ n ∧ cnt ≤ 40 ∧ i = .int .i64 k ∧ cv = .int .i64 cnt ∧ Bx (runK b aa k = (bk, cnt)) ∧ St w wr [rBlk w.heap.size 28 #[.int .i64 os, .slice G gn gc, .slice G' n' c', .slice D' dn dc, .int .i64 st], rBlk (w.heap.size + 1) 28 #[.int .i64 0, .slice none 0 0, .slice none 0 0, .slice none 0 0, .int .i64 0], rBlk g6 28 #[.int .i64 cs, .slice B1 m1 d1, .slice B2 m2 d2, .slice B3 m3 d3, .int .i64 ct], rBook (.agg #[.int .i64 cs, .slice B1 m1 d1, .slice B2 m2 d2, .slice B3 m3 d3, .int .i64 ct]) bk]) (fun i _ _ => n - (intOf i).toNat)
  case atStart => exact ⟨0, 0, b, os, st, _, _, _, _, _, _, _, _, _, by omega, by omega, rfl, rfl, Bx.mk (runK_zero b aa), by have h := HS2.out; first | exact h | (rw [← hg6] at h ⊢; exact h)⟩
  case round =>
   clear HS2
   obtain ⟨k, cnt, bk, cs, ct, B1, m1, d1, B2, m2, d2, B3, m3, d3, hk, hcnt, rfl, rfl, HRK, S⟩ := hrel
   have HS := Lib.hid S
   have q6 : ∀ j, wr.cell? ⟨g6, j, none⟩ = _ := S.cells 2 rfl
   have q5 : ∀ j, wr.cell? ⟨w.heap.size + 1, j, none⟩ = _ := S.cells 1 rfl
   have f6 := S.free 2 rfl
   have f5 := S.free 1 rfl
   clear S
   have HKO := Bx.mk (runK_ok (b := b) aa k HOK.out)
   rw [HRK.out] at HKO
   by_cases hlt : k < n
   ·obtain ⟨ab, aoff, a, rfl, hab, hat, ha0, ha1⟩ := HA.out.get hlt
    obtain ⟨ak, am⟩ := a
    have HAB := Lib.hid hab
    have HC0 := Lib.hid ha0
    have HC1 := Lib.hid ha1
    have HAW := Lib.hid (HWF.out _ (List.mem_of_getElem? hat))
    have HKI : Hid ((k : Int) < (n : Int)) := Lib.hid (by omega)
    have HRK2 := Bx.mk (runK_step (b := b) hat)
    rw [HRK.out] at HRK2
    have HKO2 := Bx.mk (runK_ok (b := b) aa (k + 1) HOK.out)
    simp only at HAW HC0 HC1
    obtain ⟨nb, hnb⟩ : ∃ x, bookDo bk ⟨ak, am⟩ = x := ⟨_, rfl⟩
    obtain ⟨did, hdid⟩ : ∃ x, bookDid bk ⟨ak, am⟩ = x := ⟨_, rfl⟩
    obtain ⟨ns, hns⟩ : ∃ x, nb.order.start = x := ⟨_, rfl⟩
    obtain ⟨nt, hnt⟩ : ∃ x, nb.state = x := ⟨_, rfl⟩
    have HNB := Bx.mk hnb
    have HDID := Bx.mk hdid
    have HNS := Bx.mk hns
    have HNT := Bx.mk hnt
    have HAL2 := HAL
    have hnn : bookDid bk ⟨ak, am⟩ = false → nb = bk := fun h => by
     rw [← hnb]
     have hbk := HKO.out.1
     cases hd : doneAfter bk ⟨ak, am⟩ with
     | none => exact (bookDo_none hbk hd).1
     | some d => rw [(bookDo_some hbk hd).2] at h; cases h
    rw [HNB.out, HDID.out] at HRK2
    rw [HRK2.out] at HKO2
    have HNN := Bx.mk hnn
    rw [HDID.out] at HNN
    clear hnb hdid hns hnt hnn hab hat ha0 ha1
    have r0 : wr.cell? ⟨ab, aoff + k * 2, none⟩ = some (.int .i64 ak) := (bcells HS.out.below ab _ HAB.out).trans HC0.out
    have r1 : wr.cell? ⟨ab, aoff + k * 2 + 1, none⟩ = some (.int .i64 am) := (bcells HS.out.below ab _ HAB.out).trans HC1.out
    have HS3 := Lib.hid ((HS.out.alloc #[.int .i64 ak, .int .i64 am] 64).pick [0, 1, 2, 3] (by decide) rfl rfl)
    have q3 : ∀ j, (wr.alloc (.cells #[.int .i64 ak, .int .i64 am] 64)).cell? ⟨g6, j, none⟩ = _ := HS3.out.cells 2 rfl
    have hki := HKI.out
    clear HS f5 f6 q5
    go_wp2_with fail
    refine (bookDo_impl _ bk ak am _ (HS3.out.rdB 3 rfl) HAW.out).mono ?_
    rw [HNB.out, HDID.out]
    rintro e w4 ⟨v4, rfl, s4⟩
    obtain ⟨N1, e1, u1, N2, e2, u2, N3, e3, u3, hv⟩ := s4.formB 0 rfl
    rw [HNS.out, HNT.out] at hv
    subst hv
    obtain ⟨g9, hg9⟩ : ∃ g, w4.heap.size = g := ⟨_, rfl⟩
    have HS7 : Hid (St w (w4.alloc (.cells #[.int .i64 ns, .slice N1 e1 u1, .slice N2 e2 u2, .slice N3 e3 u3, .int .i64 nt] 28)) [rBlk w.heap.size 28 #[.int .i64 os, .slice G gn gc, .slice G' n' c', .slice D' dn dc, .int .i64 st], rBlk (w.heap.size + 1) 28 #[.int .i64 0, .slice none 0 0, .slice none 0 0, .slice none 0 0, .int .i64 0], rBlk g6 28 #[.int .i64 cs, .slice B1 m1 d1, .slice B2 m2 d2, .slice B3 m3 d3, .int .i64 ct], rBook (.agg #[.int .i64 cs, .slice B1 m1 d1, .slice B2 m2 d2, .slice B3 m3 d3, .int .i64 ct]) bk, rBook (.agg #[.int .i64 ns, .slice N1 e1 u1, .slice N2 e2 u2, .slice N3 e3 u3, .int .i64 nt]) nb, rBlk g9 28 #[.int .i64 ns, .slice N1 e1 u1, .slice N2 e2 u2, .slice N3 e3 u3, .int .i64 nt]]) := Lib.hid (by rw [← hg9]; exact (HS3.out.call s4).alloc _ _)
    clear s4 HS3 r0 r1 q6 q3
    try rw [hg9]
    have q7 : ∀ j, (w4.alloc (.cells #[.int .i64 ns, .slice N1 e1 u1, .slice N2 e2 u2, .slice N3 e3 u3, .int .i64 nt] 28)).cell? ⟨g6, j, none⟩ = _ := HS7.out.cells 2 rfl
    have q8 : ∀ j, (w4.alloc (.cells #[.int .i64 ns, .slice N1 e1 u1, .slice N2 e2 u2, .slice N3 e3 u3, .int .i64 nt] 28)).cell? ⟨g9, j, none⟩ = _ := HS7.out.cells 5 rfl
    have f7 := HS7.out.free 2 rfl
    cases did with
    | false =>
     have HRK3 : Bx (runK b aa (k + 1) = (bk, cnt)) := Bx.mk (by rw [HRK2.out, HNN.out rfl]; rfl)
     have HS8 := Lib.hid (HS7.out.pick [0, 1, 2, 3] (by decide) rfl rfl)
     go_wp2
     go_roundw
     case rel => exact ⟨k + 1, cnt, bk, cs, ct, B1, m1, d1, B2, m2, d2, B3, m3, d3, by omega, hcnt, by go_num, rfl, HRK3, HS8.out⟩
     case measure => simp [intOf]; omega
    | true =>
     have HRK3 : Bx (runK b aa (k + 1) = (nb, cnt + 1)) := Bx.mk (by rw [HRK2.out]; rfl)
     have hcnt2 : cnt + 1 ≤ 40 := by
      have := (runK_ok (b := b) aa (k + 1) HOK.out).2.2
      rw [HRK3.out, HAL.out] at this
      exact Nat.le_trans this hn40
     have hcnti : (cnt : Int) + 1 ≤ 40 := by omega
     have HS8 : Hid (St w ((((((w4.alloc (.cells #[.int .i64 ns, .slice N1 e1 u1, .slice N2 e2 u2, .slice N3 e3 u3, .int .i64 nt] 28)).setCell ⟨g6, 0, none⟩ (.int .i64 ns)).setCell ⟨g6, 1, none⟩ (.slice N1 e1 u1)).setCell ⟨g6, 2, none⟩ (.slice N2 e2 u2)).setCell ⟨g6, 3, none⟩ (.slice N3 e3 u3)).setCell ⟨g6, 4, none⟩ (.int .i64 nt)) [rBlk w.heap.size 28 #[.int .i64 os, .slice G gn gc, .slice G' n' c', .slice D' dn dc, .int .i64 st], rBlk (w.heap.size + 1) 28 #[.int .i64 0, .slice none 0 0, .slice none 0 0, .slice none 0 0, .int .i64 0], rBlk g6 28 #[.int .i64 ns, .slice N1 e1 u1, .slice N2 e2 u2, .slice N3 e3 u3, .int .i64 nt], rBook (.agg #[.int .i64 ns, .slice N1 e1 u1, .slice N2 e2 u2, .slice N3 e3 u3, .int .i64 nt]) nb]) := Lib.hid ((HS7.out.set5 2 rfl (.int .i64 ns) (.slice N1 e1 u1) (.slice N2 e2 u2) (.slice N3 e3 u3) (.int .i64 nt)).pick [0, 1, 2, 4] (by decide) rfl rfl)
     go_wp2
     go_roundw
     case rel => exact ⟨k + 1, cnt + 1, nb, ns, nt, N1, e1, u1, N2, e2, u2, N3, e3, u3, by omega, hcnt2, by go_num, by go_num, HRK3, HS8.out⟩
     case measure => simp [intOf]; omega
   ·obtain rfl : k = n := by omega
    have HE : Bx (runB b aa = (bk, cnt)) := Bx.mk (by rw [← HRK.out, runK_all b aa (by rw [HAL.out]; exact Nat.le_refl _)])
    go_wp2
    have HS9 := Lib.hid (HS.out.set5 1 rfl (.int .i64 cs) (.slice B1 m1 d1) (.slice B2 m2 d2) (.slice B3 m3 d3) (.int .i64 ct))
    have q9 := HS9.out.cells 1 rfl
    refine bodyPost_ret (v := .tuple #[.agg #[.int .i64 cs, .slice B1 m1 d1, .slice B2 m2 d2, .slice B3 m3 d3, .int .i64 ct], .int .i64 (cnt : Nat)]) (by simp [results, Tryz.results39, go_sem, q5, f5]) rfl ⟨.agg #[.int .i64 cs, .slice B1 m1 d1, .slice B2 m2 d2, .slice B3 m3 d3, .int .i64 ct], by rw [HY.out, HE.out], ?_⟩
    rw [HY.out, HE.out]
    exact HS9.out.pick [3] (by decide) rfl rfl

end Go.Proofs.YtkmcengmglgdeaaGreatDoor

/- Acts as arguments: as they came in; toAct, toActS, szActS of the exact laws. -/
namespace Go.Proofs.YtkmcengmglgdeaaGreatDoor
set_option linter.unusedVariables false
set_option linter.unusedSimpArgs false
open Go.ChangeShapes Go.WideShapes Go.ChangeAt Go.RowKit Go.Deep

section
variable {H : Type} {enc : TypeId × Value → H} {W : World} {base : Nat} {spare : Nat → Bool} {held : Bool} {fuel : Nat} {cs : List Value} {x : DataW H × List MemPlace}
end
def fillA (aa : List ActD) (k : Nat) : List ActD := aa.take k ++ List.replicate (aa.length - k) ⟨0, 0⟩
theorem flatA_rep (n : Nat) : ints (flatA (List.replicate n ⟨0, 0⟩)) = List.replicate (n * 2) (.int .i64 0) := by
 induction n with
 | zero => rfl
 | succ n ih =>
  rw [List.replicate_succ, flatA_cons, show (n + 1) * 2 = n * 2 + 1 + 1 by omega, List.replicate_succ, List.replicate_succ, ← ih]; rfl
set_option maxRecDepth 100000 in
theorem sameActs_same (A : Option Addr) (n c : Nat) (aa : List ActD) (A' : Option Addr) (n' c' : Nat) (w : World) (h : RdA w w.heap.size A n c aa) (h' : RdA w w.heap.size A' n' c' aa) :
  Calls Tryz.prog 36 #[.slice A n c, .slice A' n' c'] w fun e w' => e = .returned (.bool true) ∧ Below w.heap.size w w' := by
 obtain rfl : n' = n := h'.1.symm.trans h.1
 have hcp := h.2.cap
 have hcm := h.2.capMax
 unfold maxLen at hcm
 have H := Lib.hid h
 have H' := Lib.hid h'
 clear h h'
 go_enter Tryz.func36, Tryz.ntmps36
 go_wp2
 go_loopw [5] (fun i wr => ∃ k : Nat, k ≤ n' ∧ i = .int .i64 k ∧ Below w.heap.size w wr) (fun i _ => n' - (intOf i).toNat)
 case atStart => exact ⟨0, by omega, rfl, Below.refl _ _⟩
 case round =>
  obtain ⟨k, hk, rfl, hbel⟩ := hrel
  have HB := Lib.hid hbel
  clear hbel
  by_cases hlt : k < n'
  ·obtain ⟨b, off, a, rfl, hb, ha, q0, q1⟩ := (H.out.up HB.out).get hlt
   obtain ⟨b', off', a', rfl, hb', ha', q0', q1'⟩ := (H'.out.up HB.out).get hlt
   obtain rfl : a' = a := by have := ha'.symm.trans ha; injection this
   clear ha ha'
   go_wp2
   go_quiet (fail)
   go_wp2
   go_roundw
   case rel => exact ⟨k + 1, by omega, by go_num, below_drewN HB.out _⟩
   case measure => simp [intOf]; omega
  ·go_wp2
   go_ret
   exact ⟨rfl, HB.out⟩
end Go.Proofs.YtkmcengmglgdeaaGreatDoor

/- A pick within a region that draws. -/
namespace Go.Proofs.YtkmcengmglgdeaaGreatDoor
set_option linter.unusedVariables false
set_option linter.unusedSimpArgs false
open Go.ChangeShapes Go.WideShapes Go.ChangeAt Go.RowKit

section
variable {w W W' : World} {Rs L : List HRes} {M : Nat → Option HRes}
theorem Sn.pick (h : Sn w W M) (k : Nat) {g hi : Nat} (hk : M k = some (rRd w g hi)) (hh : hi ≤ 549755813888) (m : Int) :
  Calls Tryz.prog 43 #[.pointer (some ⟨g, 0, none⟩), .int .i64 m] W fun e w' => ∃ x, e = .returned (.int .i64 x) ∧ InPick m x ∧ Sn w w' (fun i => if i = k then some (rRd w g (hi + 1)) else M i) := by
 obtain ⟨F, ⟨hF, p, A, n, c, xs, h1, h2, h3, h4⟩, hlo⟩ := h.get k hk
 have hg : w.heap.size ≤ g := hlo g (by rw [hF]; simp)
 have hR : Rdr W w.heap.size g p := ⟨hg, by omega, A, n, c, xs, h2, h3.below h.below, h4⟩
 refine (pick_any g w.heap.size p m W hR (by omega)).mono fun e w' ⟨⟨x, he, hx⟩, hgr, hr⟩ => ⟨x, he, hx, ?_⟩
 obtain ⟨-, -, A', n', c', ys, k1, k2, k3⟩ := hr
 have hb : Below w.heap.size W w' := (Below.refl _ _).grown hgr h.below.size (fun k hk => by cases hk; exact hg)
 have hrd : RdI .u8 w w.heap.size A' n' c' ys := ⟨k2.len, k2.cap, k2.capMax, k2.wf, fun hp => by
  obtain ⟨b, off, e, hbb, hc⟩ := k2.at_ hp
  exact ⟨b, off, e, hbb, fun i x hx => (bcells (h.below.trans hb) b _ hbb).symm.trans (hc i x hx)⟩⟩
 exact h.mod k hk fun F ⟨e, _⟩ _ => ⟨F, ⟨e, p + 1, A', n', c', ys, by omega, k1, hrd, k3⟩, fun b hb => .inl hb, by rw [e]; exact Only.of_grown hgr⟩
end
end Go.Proofs.YtkmcengmglgdeaaGreatDoor

/- Several things of the list taken as one, and parted again; picks within a region that draws. -/
namespace Go.Proofs.YtkmcengmglgdeaaGreatDoor
set_option linter.unusedVariables false
set_option linter.unusedSimpArgs false
open Go.ChangeShapes Go.WideShapes Go.ChangeAt Go.RowKit

section
variable {w W W' : World} {Rs L : List HRes} {M : Nat → Option HRes}
theorem St.pack (h : St w W (Rs ++ L)) : St w W (Rs ++ [rAll L]) := by
 obtain ⟨Fs, kl, ha, hn⟩ := h.has
 have hl : Fs.length = Rs.length + L.length := by rw [kl, List.length_append]
 have e : Fs = Fs.take Rs.length ++ Fs.drop Rs.length := (List.take_append_drop ..).symm
 have hn2 := hn
 rw [e, List.flatten_append] at hn2
 refine ⟨h.below, Fs.take Rs.length ++ [(Fs.drop Rs.length).flatten], by simp; omega, fun i R F hR hF => ?_, by rw [List.flatten_append]; simpa using hn2⟩
 rcases Nat.lt_or_ge i Rs.length with hi | hi
 ·rw [List.getElem?_append_left hi] at hR
  rw [List.getElem?_append_left (by simp; omega), List.getElem?_take_of_lt hi] at hF
  exact ha i R F (by rw [List.getElem?_append_left hi]; exact hR) hF
 ·rw [List.getElem?_append_right hi] at hR
  rw [List.getElem?_append_right (by simp; omega)] at hF
  have hi0 : i = Rs.length := by
   have := (List.getElem?_eq_some_iff.1 hR).1
   simp at this; omega
  subst hi0
  rw [Nat.sub_self] at hR
  rw [show Rs.length - (Fs.take Rs.length).length = 0 by simp; omega] at hF
  simp only [List.getElem?_cons_zero, Option.some.injEq] at hR hF
  subst hR hF
  have hat : ∀ (j : Nat) R G, L[j]? = some R → (Fs.drop Rs.length)[j]? = some G → R.at_ W G ∧ ∀ b ∈ G, w.heap.size ≤ b := fun j R G hR hG => by
   rw [List.getElem?_drop] at hG
   exact ha (Rs.length + j) R G (by rw [List.getElem?_append_right (by omega), Nat.add_sub_cancel_left]; exact hR) hG
  refine ⟨⟨Fs.drop Rs.length, by simp; omega, fun j R G hR hG => (hat j R G hR hG).1, (List.nodup_append.1 hn2).2.1, rfl⟩, fun b hb => ?_⟩
  obtain ⟨G, hG, hb⟩ := List.mem_flatten.1 hb
  obtain ⟨j, hj⟩ := List.mem_iff_getElem?.1 hG
  have hjl : j < L.length := by have := (List.getElem?_eq_some_iff.1 hj).1; simp at this; omega
  exact (hat j _ G (List.getElem?_eq_getElem hjl) hj).2 b hb
theorem St.unpack (h : St w W (Rs ++ [rAll L])) : St w W (Rs ++ L) := by
 obtain ⟨Fs, kl, ha, hn⟩ := h.has
 have hl : Fs.length = Rs.length + 1 := by simpa using kl
 have hF : Fs[Rs.length]? = some (Fs[Rs.length]'(by omega)) := List.getElem?_eq_getElem _
 generalize Fs[Rs.length]'(by omega) = F at hF
 obtain ⟨⟨Gs, g1, g2, g3, g4⟩, h2⟩ := ha Rs.length (rAll L) F (by simp) hF
 have e : Fs = Fs.take Rs.length ++ [F] := by
  have h1 := (List.take_append_drop Rs.length Fs).symm
  have h3 : Fs.drop Rs.length = [F] := by
   obtain ⟨hlt, he⟩ := List.getElem?_eq_some_iff.1 hF
   rw [List.drop_eq_getElem_cons hlt, he, List.drop_of_length_le (by omega)]
  rw [h3] at h1; exact h1
 refine ⟨h.below, Fs.take Rs.length ++ Gs, by simp; omega, fun i R G hR hG => ?_, ?_⟩
 ·rcases Nat.lt_or_ge i Rs.length with hi | hi
  ·rw [List.getElem?_append_left hi] at hR
   rw [List.getElem?_append_left (by simp; omega), List.getElem?_take_of_lt hi] at hG
   exact ha i R G (by rw [List.getElem?_append_left hi]; exact hR) hG
  ·rw [List.getElem?_append_right hi] at hR
   rw [List.getElem?_append_right (by simp; omega), show (Fs.take Rs.length).length = Rs.length by simp; omega] at hG
   exact ⟨g2 _ R G hR hG, fun b hb => h2 b (by rw [g4]; exact mem_flat hG hb)⟩
 ·rw [List.flatten_append]
  rw [e, List.flatten_append] at hn
  rw [show [F].flatten = F by simp, g4] at hn
  exact hn
end
end Go.Proofs.YtkmcengmglgdeaaGreatDoor
