/- PlanShort of the reference. Printed by gen_shorts.py out of XShortS.src. -/
import Derived.Test.YtkmcengmglgdeaaGreatDoorSShortI
namespace Go.Proofs.YtkmcengmglgdeaaGreatDoor
set_option linter.unusedVariables false
set_option linter.unusedSimpArgs false
open Go.ChangeShapes Go.WideShapes Go.ChangeAt Go.RowKit

theorem own_form2 {w : World} {base g k c s : Nat} {e : TypeId} {size n : Nat} {v : Value} {xs : List Value} (h : w.ownsRow base e size v n xs) (hat : v.ownBlock = (Value.slice (some ⟨g, 0, none⟩) k c).ownBlock ∨ v.ownBlock = some s) : ∃ b c', v = .slice (some ⟨b, 0, none⟩) n c' := by
 rcases h.2 with ⟨rfl, -⟩ | ⟨g', cap, cur, rfl, -⟩
 ·rcases hat with h | h <;> cases h
 ·exact ⟨g', cap, rfl⟩
theorem shortN_past {t : TaskD} {p q : List Int} {a : Nat} (h : shortN t p a = q) (hq : q.length < a) : ∀ n, shortN t p (a + n) = q := fun n => by
 induction n with
 | zero => exact h
 | succ n ih =>
  show cutAt t (shortN t p (a + n)) (a + n) = q
  rw [ih]
  exact cutAt_past t q _ (by omega)
set_option maxRecDepth 100000 in
set_option maxHeartbeats 2000000 in
theorem planShort_spec (v : Value) (t : TaskD) (A : Option Addr) (n c : Nat) (p : List Int) (w : World) (h : RdT w w.heap.size v t) (hp : RdI .i64 w w.heap.size A n c p) :
  Calls Tryz.prog 123 #[v, .slice A n c] w (Gives w (fun v => .tuple #[v, .bool (planShort t p).isSome]) fun v => [rInts v ((planShort t p).getD [])]) := by
 have h' := h
 obtain ⟨G, gn, gc, G', n', c', rfl, hg, hgs, hds, hst⟩ := h
 have HT := Lib.hid h'
 have HP := Lib.hid hp
 have HPL := Lib.hid hp.len
 have HPW := Lib.hid hp.wf
 have hcap := hp.cap
 have hcm := hp.capMax
 unfold maxLen at hcm
 obtain ⟨ts, hts⟩ : ∃ x, t.start = x := ⟨_, rfl⟩
 have HTS := Bx.mk hts
 rw [hts] at HT ⊢
 have HS0 := Lib.hid ((St.refl w).alloc #[.int .i64 ts, .slice G gn gc, .slice G' n' c'] 26)
 clear hds h' hg hp hts hst
 obtain ⟨z0, hz0⟩ : ∃ z, planRun t ts p = z := ⟨_, rfl⟩
 have HZ := Bx.mk hz0
 clear hz0
 by_cases hneg : z0 < 0
 ·have HN : Bx (planShort t p = none) := Bx.mk (planShort_no t p (by rw [HTS.out, HZ.out]; exact hneg))
  go_enter Tryz.func123, Tryz.ntmps123
  go_wp2_with fail
  refine (planRun_spec _ t ts A n c p _ (HT.out.up HS0.out.below) (HP.out.up HS0.out.below)).mono ?_
  rw [HZ.out]
  rintro e w1 ⟨rfl, hb1⟩
  have HS1 := Lib.hid ((HS0.out.quiet hb1).call (St.newI _ _ rfl))
  clear hb1
  go_wp2
  refine bodyPost_ret (v := .tuple #[.slice (some ⟨w1.heap.size, 0, none⟩) 0 0, .bool false]) (by simp [results, Tryz.results123, go_sem]) rfl ⟨.slice (some ⟨w1.heap.size, 0, none⟩) 0 0, by rw [HN.out]; rfl, ?_⟩
  rw [HN.out]
  exact HS1.out.pick [1] (by decide) rfl rfl
 ·have hz0 : 0 ≤ planRun t t.start p := by rw [HTS.out, HZ.out]; omega
  have HR := Bx.mk hz0
  obtain ⟨hok, hsi, hl40, -⟩ := (planRun_bd t t.start p).1 hz0
  have HY := Bx.mk (planShort_yes t p hz0)
  have hn40 : n ≤ 40 := by rw [← HPL.out]; exact hl40
  clear hz0 hok hsi hl40
  go_enter Tryz.func123, Tryz.ntmps123
  go_wp2_with fail
  refine (planRun_spec _ t ts A n c p _ (HT.out.up HS0.out.below) (HP.out.up HS0.out.below)).mono ?_
  rw [HZ.out]
  rintro e w1 ⟨rfl, hb1⟩
  have HS1 := Lib.hid ((HS0.out.quiet hb1).call (St.newI _ _ rfl))
  have HOW := Lib.hid (HS1.out.ownI 1 rfl)
  have HPR := Lib.hid (HP.out.up HS1.out.below).row
  clear hb1 HS0
  simp only [List.length_nil] at HOW
  go_wp2_with (at_builtin; refine wp_app elInt rfl _ _ rfl 0 (.slice (some ⟨w1.heap.size, 0, none⟩) 0 0) 0 (ints []) rfl HOW.out _ A n c (ints p) rfl HPR.out (ints_cell _) (by omega) (by omega) (Nat.zero_le _) ?_; intro v2 w2 hown2 hg2 hat2)
  obtain ⟨b0, c0, hv2⟩ := own_form2 hown2 hat2
  subst hv2
  have HS2 : Hid (St w w2 [rBlk w.heap.size 26 #[.int .i64 ts, .slice G gn gc, .slice G' n' c'], rInts (.slice (some ⟨b0, 0, none⟩) n c0) p]) := Lib.hid (by
   have := HS1.out.appI (ys := p) 1 rfl (by rw [HPL.out]; simp) hown2 HPW.out hg2 hat2
   rw [Nat.zero_add] at this
   exact this)
  clear hown2 hg2 hat2 HS1 HOW HPR
  try rw [Nat.zero_add]
  go_wp2
  go_loopw [7, 6] (fun av x6 wr => ∃ (a z b c : Nat) (q : List Int), av = .int .i64 a ∧ x6 = .slice (some ⟨b, 0, none⟩) z c ∧ a ≤ z + 1 ∧ z ≤ 40 ∧ Bx (q.length = z) ∧ Bx (shortN t p a = q) ∧ Bx (0 ≤ planRun t t.start q) ∧ St w wr [rBlk w.heap.size 26 #[.int .i64 ts, .slice G gn gc, .slice G' n' c'], rInts (.slice (some ⟨b, 0, none⟩) z c) q]) (fun av x6 _ => lenV x6 + 1 - (intOf av).toNat)
  case atStart => exact ⟨0, n, b0, c0, p, rfl, by simp, by omega, by omega, Bx.mk HPL.out, Bx.mk rfl, HR, HS2.out⟩
  case round =>
   clear HS2
   obtain ⟨a, z, b, c, q, rfl, rfl, haz, hz, HQL, HSN, HRQ, S⟩ := hrel
   have HS3 := Lib.hid S
   have hzc : z ≤ c := (S.rdI' 1 rfl).cap
   have hcm3 : c ≤ maxLen := (S.rdI' 1 rfl).capMax
   unfold maxLen at hcm3
   clear S
   by_cases hle : a ≤ z
   ·have hlei : (a : Int) ≤ (z : Int) := by omega
    have hac : a ≤ c := by omega
    have haci : (a : Int) ≤ (c : Int) := by omega
    obtain ⟨u, hu⟩ : ∃ u, planRun t ts (q.take a) = u := ⟨_, rfl⟩
    have HU := Bx.mk hu
    have HUP : Bx (prun t q a = u) := Bx.mk (by unfold prun; rw [HTS.out, HU.out])
    clear hu
    go_upto_region 7 with (fail)
    refine wp_reg (σ := Unit) (by kernel_rfl) (by kernel_rfl) (by kernel_rfl)
     (fun s i => match i with
      | 0 => .agg #[.int .i64 ts, .slice G gn gc, .slice G' n' c']
      | 1 => .pointer (some ⟨w.heap.size, 0, none⟩)
      | 2 => .int .i64 ts
      | 3 => .slice (some ⟨b, 0, none⟩) z c
      | 4 => .int .i64 (a : Int)
      | 5 => .slice (some ⟨b, 0, none⟩) a c
      | 6 => .int .i64 u
      | 7 => .int .i64 u
      | _ => undef)
     (fun D s wxa => Sn w wxa fun i => match i with
      | 0 => some (rBlk w.heap.size 26 #[.int .i64 ts, .slice G gn gc, .slice G' n' c'])
      | 1 => some (rInts (.slice (some ⟨b, 0, none⟩) z c) q)
      | _ => none)
     () ?_ ?_ ?_
    ·intro D hD
     refine ((Sn.of_st HS3.out).quiet ((Below.refl _ _).drew)).congr fun i => ?_
     match i with
     | 0 => rfl
     | 1 => rfl
     | q + 2 => rfl
    ·refine StepAll.cons (fun D s wxa hR (hDi : D 0 = false) hd hsh a' hs K hK => ?_) ?_
     ·have e2 := hs.old 2 (u := .pointer (some ⟨w.heap.size, 0, none⟩)) (by kernel_rfl) rfl
      clear hs
      have kb : Blk wxa (w.heap.size) 26 #[.int .i64 ts, .slice G gn gc, .slice G' n' c'] := hR.blk 0 rfl
      have c0 : wxa.cell? ⟨w.heap.size, 0, none⟩ = some (.int .i64 ts) := kb.cell 0
      have c1 : wxa.cell? ⟨w.heap.size, 1, none⟩ = some (.slice G gn gc) := kb.cell 1
      have c2 : wxa.cell? ⟨w.heap.size, 2, none⟩ = some (.slice G' n' c') := kb.cell 2
      go_simp
      exact hK s wxa (fun _ _ => rfl) hR
     refine StepAll.cons (fun D s wxa hR (hDi : D 1 = false) hd hsh a' hs K hK => ?_) ?_
     ·have e2 := hs.old 2 (u := .pointer (some ⟨w.heap.size, 0, none⟩)) (by kernel_rfl) rfl
      clear hs
      go_simp
      exact hK s wxa (fun _ _ => rfl) hR
     refine StepAll.cons (fun D s wxa hR (hDi : D 2 = false) hd hsh a' hs K hK => ?_) ?_
     ·have e27 := hs.g 1 27 (.pointer (some ⟨w.heap.size, 0, none⟩)) (hd ⟨1, .data⟩ (by simp) rfl)
      clear hs
      have kb : Blk wxa (w.heap.size) 26 #[.int .i64 ts, .slice G gn gc, .slice G' n' c'] := hR.blk 0 rfl
      have c0 : wxa.cell? ⟨w.heap.size, 0, none⟩ = some (.int .i64 ts) := kb.cell 0
      go_simp
      exact hK s wxa (fun _ _ => rfl) hR
     refine StepAll.cons (fun D s wxa hR (hDi : D 3 = false) hd hsh a' hs K hK => ?_) ?_
     ·have e6 := hs.old 6 (u := .slice (some ⟨b, 0, none⟩) z c) (by kernel_rfl) rfl
      clear hs
      go_simp
      exact hK s wxa (fun _ _ => rfl) hR
     refine StepAll.cons (fun D s wxa hR (hDi : D 4 = false) hd hsh a' hs K hK => ?_) ?_
     ·have e7 := hs.old 7 (u := .int .i64 (a : Int)) (by kernel_rfl) rfl
      clear hs
      go_simp
      exact hK s wxa (fun _ _ => rfl) hR
     refine StepAll.cons (fun D s wxa hR (hDi : D 5 = false) hd hsh a' hs K hK => ?_) ?_
     ·have e29 := hs.g 3 29 (.slice (some ⟨b, 0, none⟩) z c) (hd ⟨3, .data⟩ (by simp) rfl)
      have e30 := hs.g 4 30 (.int .i64 (a : Int)) (hd ⟨4, .data⟩ (by simp) rfl)
      clear hs
      go_simp
      exact hK s wxa (fun _ _ => rfl) hR
     refine StepAll.cons (fun D s wxa hR (hDi : D 6 = false) hd hsh a' hs K hK => ?_) ?_
     ·have e26 := hs.g 0 26 (.agg #[.int .i64 ts, .slice G gn gc, .slice G' n' c']) (hd ⟨0, .data⟩ (by simp) rfl)
      have e28 := hs.g 2 28 (.int .i64 ts) (hd ⟨2, .data⟩ (by simp) rfl)
      have e31 := hs.g 5 31 (.slice (some ⟨b, 0, none⟩) a c) (hd ⟨5, .data⟩ (by simp) rfl)
      have g26 := getQ e26
      have g28 := getQ e28
      have g31 := getQ e31
      clear hs
      go_simp
      refine (planRun_spec _ t ts (some ⟨b, 0, none⟩) a c (q.take a) _ (HT.out.up hR.below) (rdI_prefix (hR.rdI' 1 rfl) a (by omega))).mono ?_
      rw [HU.out]
      rintro e2 w2 ⟨rfl, hb2⟩
      exact hK s w2 (fun _ _ => rfl) (hR.quiet hb2)
     refine StepAll.cons (fun D s wxa hR (hDi : D 7 = false) hd hsh a' hs K hK => ?_) ?_
     ·have e32 := hs.g 6 32 (.int .i64 u) (hd ⟨6, .data⟩ (by simp) rfl)
      clear hs
      go_simp
      exact hK s wxa (fun _ _ => rfl) hR
     exact StepAll.nil
    ·intro D s wxa hR hD
     simp only [putA, Act.put, List.setIfInBounds_toArray, List.set_cons_zero, List.set_cons_succ]
     have HS4 := Lib.hid (hR.to_st [0, 1] (L := [rBlk w.heap.size 26 #[.int .i64 ts, .slice G gn gc, .slice G' n' c'], rInts (.slice (some ⟨b, 0, none⟩) z c) q]) (by decide) rfl)
     clear hR hD HS3
     go_wp2
     go_loopw [9, 6] (fun mv x6 wr => ∃ m : Nat, mv = .int .i64 m ∧ x6 = .slice (some ⟨b, 0, none⟩) z c ∧ a ≤ m ∧ m ≤ z ∧ Bx (∀ j, m < j → j ≤ q.length → prun t q j ≠ prun t q a) ∧ St w wr [rBlk w.heap.size 26 #[.int .i64 ts, .slice G gn gc, .slice G' n' c'], rInts (.slice (some ⟨b, 0, none⟩) z c) q]) (fun mv _ _ => (intOf mv).toNat)
     case atStart => exact ⟨z, rfl, rfl, by omega, by omega, Bx.mk (fun j h1 h2 => by have := HQL.out; omega), HS4.out⟩
     case round =>
      clear HS4
      obtain ⟨m, rfl, rfl, ham, hmz, HNO, S⟩ := hrel
      have HS5 := Lib.hid S
      clear S
      by_cases hlt : a < m
      ·have hlti : (a : Int) < (m : Int) := by omega
       have hmzi : (m : Int) ≤ (z : Int) := by omega
       have hmc : m ≤ c := by omega
       have hmci : (m : Int) ≤ (c : Int) := by omega
       obtain ⟨u2, hu2⟩ : ∃ u, planRun t ts (q.take m) = u := ⟨_, rfl⟩
       have HU2 := Bx.mk hu2
       have HUP2 : Bx (prun t q m = u2) := Bx.mk (by unfold prun; rw [HTS.out, HU2.out])
       clear hu2
       go_upto_region 11 with (fail)
       refine wp_reg (σ := Unit) (by kernel_rfl) (by kernel_rfl) (by kernel_rfl)
        (fun s i => match i with
         | 0 => .agg #[.int .i64 ts, .slice G gn gc, .slice G' n' c']
         | 1 => .pointer (some ⟨w.heap.size, 0, none⟩)
         | 2 => .int .i64 ts
         | 3 => .slice (some ⟨b, 0, none⟩) z c
         | 4 => .int .i64 (m : Int)
         | 5 => .slice (some ⟨b, 0, none⟩) m c
         | 6 => .int .i64 u2
         | 7 => .int .i64 u
         | 8 => .bool (u2 == u)
         | _ => undef)
        (fun D s wxb => Sn w wxb fun i => match i with
         | 0 => some (rBlk w.heap.size 26 #[.int .i64 ts, .slice G gn gc, .slice G' n' c'])
         | 1 => some (rInts (.slice (some ⟨b, 0, none⟩) z c) q)
         | _ => none)
        () ?_ ?_ ?_
       ·intro D hD
        refine ((Sn.of_st HS5.out).quiet ((Below.refl _ _).drew)).congr fun i => ?_
        match i with
        | 0 => rfl
        | 1 => rfl
        | q + 2 => rfl
       ·refine StepAll.cons (fun D s wxb hR (hDi : D 0 = false) hd hsh a' hs K hK => ?_) ?_
        ·have e2 := hs.old 2 (u := .pointer (some ⟨w.heap.size, 0, none⟩)) (by kernel_rfl) rfl
         clear hs
         have kb : Blk wxb (w.heap.size) 26 #[.int .i64 ts, .slice G gn gc, .slice G' n' c'] := hR.blk 0 rfl
         have c0 : wxb.cell? ⟨w.heap.size, 0, none⟩ = some (.int .i64 ts) := kb.cell 0
         have c1 : wxb.cell? ⟨w.heap.size, 1, none⟩ = some (.slice G gn gc) := kb.cell 1
         have c2 : wxb.cell? ⟨w.heap.size, 2, none⟩ = some (.slice G' n' c') := kb.cell 2
         go_simp
         exact hK s wxb (fun _ _ => rfl) hR
        refine StepAll.cons (fun D s wxb hR (hDi : D 1 = false) hd hsh a' hs K hK => ?_) ?_
        ·have e2 := hs.old 2 (u := .pointer (some ⟨w.heap.size, 0, none⟩)) (by kernel_rfl) rfl
         clear hs
         go_simp
         exact hK s wxb (fun _ _ => rfl) hR
        refine StepAll.cons (fun D s wxb hR (hDi : D 2 = false) hd hsh a' hs K hK => ?_) ?_
        ·have e41 := hs.g 1 41 (.pointer (some ⟨w.heap.size, 0, none⟩)) (hd ⟨1, .data⟩ (by simp) rfl)
         clear hs
         have kb : Blk wxb (w.heap.size) 26 #[.int .i64 ts, .slice G gn gc, .slice G' n' c'] := hR.blk 0 rfl
         have c0 : wxb.cell? ⟨w.heap.size, 0, none⟩ = some (.int .i64 ts) := kb.cell 0
         go_simp
         exact hK s wxb (fun _ _ => rfl) hR
        refine StepAll.cons (fun D s wxb hR (hDi : D 3 = false) hd hsh a' hs K hK => ?_) ?_
        ·have e6 := hs.old 6 (u := .slice (some ⟨b, 0, none⟩) z c) (by kernel_rfl) rfl
         clear hs
         go_simp
         exact hK s wxb (fun _ _ => rfl) hR
        refine StepAll.cons (fun D s wxb hR (hDi : D 4 = false) hd hsh a' hs K hK => ?_) ?_
        ·have e9 := hs.old 9 (u := .int .i64 (m : Int)) (by kernel_rfl) rfl
         clear hs
         go_simp
         exact hK s wxb (fun _ _ => rfl) hR
        refine StepAll.cons (fun D s wxb hR (hDi : D 5 = false) hd hsh a' hs K hK => ?_) ?_
        ·have e43 := hs.g 3 43 (.slice (some ⟨b, 0, none⟩) z c) (hd ⟨3, .data⟩ (by simp) rfl)
         have e44 := hs.g 4 44 (.int .i64 (m : Int)) (hd ⟨4, .data⟩ (by simp) rfl)
         clear hs
         go_simp
         exact hK s wxb (fun _ _ => rfl) hR
        refine StepAll.cons (fun D s wxb hR (hDi : D 6 = false) hd hsh a' hs K hK => ?_) ?_
        ·have e40 := hs.g 0 40 (.agg #[.int .i64 ts, .slice G gn gc, .slice G' n' c']) (hd ⟨0, .data⟩ (by simp) rfl)
         have e42 := hs.g 2 42 (.int .i64 ts) (hd ⟨2, .data⟩ (by simp) rfl)
         have e45 := hs.g 5 45 (.slice (some ⟨b, 0, none⟩) m c) (hd ⟨5, .data⟩ (by simp) rfl)
         have g40 := getQ e40
         have g42 := getQ e42
         have g45 := getQ e45
         clear hs
         go_simp
         refine (planRun_spec _ t ts (some ⟨b, 0, none⟩) m c (q.take m) _ (HT.out.up hR.below) (rdI_prefix (hR.rdI' 1 rfl) m (by omega))).mono ?_
         rw [HU2.out]
         rintro e2 w2 ⟨rfl, hb2⟩
         exact hK s w2 (fun _ _ => rfl) (hR.quiet hb2)
        refine StepAll.cons (fun D s wxb hR (hDi : D 7 = false) hd hsh a' hs K hK => ?_) ?_
        ·have e8 := hs.old 8 (u := .int .i64 u) (by kernel_rfl) rfl
         clear hs
         go_simp
         exact hK s wxb (fun _ _ => rfl) hR
        refine StepAll.cons (fun D s wxb hR (hDi : D 8 = false) hd hsh a' hs K hK => ?_) ?_
        ·have e46 := hs.g 6 46 (.int .i64 u2) (hd ⟨6, .data⟩ (by simp) rfl)
         have e47 := hs.g 7 47 (.int .i64 u) (hd ⟨7, .data⟩ (by simp) rfl)
         clear hs
         go_simp
         exact hK s wxb (fun _ _ => rfl) hR
        exact StepAll.nil
       ·intro D s wxb hR hD
        simp only [putA, Act.put, List.setIfInBounds_toArray, List.set_cons_zero, List.set_cons_succ]
        have HS6 := Lib.hid (hR.to_st [0, 1] (L := [rBlk w.heap.size 26 #[.int .i64 ts, .slice G gn gc, .slice G' n' c'], rInts (.slice (some ⟨b, 0, none⟩) z c) q]) (by decide) rfl)
        clear hR hD HS5
        by_cases he : u2 = u
        ·have hbe : (u2 == u) = true := by simpa using he
         have HE : Bx (prun t q m = prun t q a) := Bx.mk (by rw [HUP2.out, HUP.out, he])
         have HC : Bx (cutAt t q a = q.take a ++ q.drop m) := Bx.mk (by unfold cutAt; rw [lastTo_eq (by omega) (by rw [HQL.out]; exact hmz) HE.out HNO.out])
         have HSN2 : Bx (shortN t p (a + 1) = q.take a ++ q.drop m) := Bx.mk (by
          show cutAt t (shortN t p a) a = _
          rw [HSN.out]; exact HC.out)
         have HRQ2 : Bx (0 ≤ planRun t t.start (q.take a ++ q.drop m)) := Bx.mk (by rw [← HSN2.out, shortN_run HR.out]; exact HR.out)
         have HTK : Bx ((q.take a).length = a) := Bx.mk (by rw [List.length_take, HQL.out]; omega)
         have HDR : Bx ((q.drop m).length = z - m) := Bx.mk (by rw [List.length_drop, HQL.out])
         have HQL2 : Bx ((q.take a ++ q.drop m).length = a + (z - m)) := Bx.mk (by rw [List.length_append, HTK.out, HDR.out])
         obtain ⟨AL, CL, hAL⟩ : ∃ (x : Option Addr) (y : Nat), (c = m → x = some ⟨b, 0, none⟩ ∧ y = 0) ∧ (c ≠ m → x = some ⟨b, m, none⟩ ∧ y = c - m) := by
          by_cases h : c = m
          ·exact ⟨_, _, fun _ => ⟨rfl, rfl⟩, fun k => absurd h k⟩
          ·exact ⟨_, _, fun k => absurd k h, fun _ => ⟨rfl, rfl⟩⟩
         have HAL := Bx.mk hAL
         clear hAL he HC HE HNO HUP HUP2 HU HU2
         go_upto_region 12 with (fail)
         refine wp_reg (σ := Nat × (Nat × Nat) × (Nat × Nat)) (by kernel_rfl) (by kernel_rfl) (by kernel_rfl)
          (fun s i => match i with
           | 0 => .slice (some ⟨s.1, 0, none⟩) 0 0
           | 1 => .slice (some ⟨b, 0, none⟩) z c
           | 2 => .int .i64 (a : Int)
           | 3 => .slice (some ⟨b, 0, none⟩) a c
           | 4 => .slice (some ⟨s.2.1.1, 0, none⟩) (0 + a) s.2.1.2
           | 5 => .slice (some ⟨b, 0, none⟩) z c
           | 6 => .int .i64 (m : Int)
           | 7 => .slice AL (z - m) CL
           | 8 => .slice (some ⟨s.2.2.1, 0, none⟩) (a + (z - m)) s.2.2.2
           | 9 => .slice (some ⟨s.2.2.1, 0, none⟩) (a + (z - m)) s.2.2.2
           | _ => undef)
          (fun D s wx => Sn w wx fun i => match i with
           | 0 => some (rBlk w.heap.size 26 #[.int .i64 ts, .slice G gn gc, .slice G' n' c'])
           | 1 => some (rInts (.slice (some ⟨b, 0, none⟩) z c) q)
           | 2 => if D 8 = true then some (rInts (.slice (some ⟨s.2.2.1, 0, none⟩) (a + (z - m)) s.2.2.2) (q.take a ++ q.drop m)) else if D 4 = true then some (rInts (.slice (some ⟨s.2.1.1, 0, none⟩) (0 + a) s.2.1.2) ([] ++ q.take a)) else if D 0 = true then some (rInts (.slice (some ⟨s.1, 0, none⟩) 0 0) []) else none
           | _ => none)
          (0, (0, 0), (0, 0)) ?_ ?_ ?_
         ·intro D hD
          refine ((Sn.of_st HS6.out).quiet ((Below.refl _ _).drew)).congr fun i => ?_
          match i with
          | 0 => rfl
          | 1 => rfl
          | 2 => simp only [hD 8 (by decide), hD 4 (by decide), hD 0 (by decide)]; rfl
          | q + 3 => rfl
         ·refine StepAll.cons (fun D s wx hR (hDi : D 0 = false) hd hsh a' hs K hK => ?_) ?_
          ·clear hs
           have n4 : D 4 = false := hsh.no hDi 4 rfl ⟨0, .data⟩ (by simp) rfl rfl
           have n8 : D 8 = false := hsh.no n4 8 rfl ⟨4, .data⟩ (by simp) rfl rfl
           have n9 : D 9 = false := hsh.no n8 9 rfl ⟨8, .data⟩ (by simp) rfl rfl
           go_simp
           refine hK (wx.heap.size, s.2.1, s.2.2) _
            (fun j hj => by
             match j, hj with
             | 0, hj => rw [hDi] at hj; cases hj
             | 1, hj => rfl
             | 2, hj => rfl
             | 3, hj => rfl
             | 4, hj => rw [n4] at hj; cases hj
             | 5, hj => rfl
             | 6, hj => rfl
             | 7, hj => rfl
             | 8, hj => rw [n8] at hj; cases hj
             | 9, hj => rw [n9] at hj; cases hj
             | _ + 10, hj => rfl)
            ((hR.add 2 (by simp only [n8, n4, hDi]; rfl) (St.newI wx wx.heap.size rfl)).congr
             (fun i => by
              match i with
              | 0 => rfl
              | 1 => rfl
              | 2 => (show (if D 8 = true then _ else if D 4 = true then _ else _) = _; rw [n8, n4]; rfl)
              | q + 3 => exact (if_neg (show ¬ (q + 3 = 2) by omega)).symm))
          refine StepAll.cons (fun D s wx hR (hDi : D 1 = false) hd hsh a' hs K hK => ?_) ?_
          ·have m9 : D 9 = false := hsh.no hDi 9 rfl ⟨1, .phase⟩ (by simp) rfl rfl
           have e6 := hs.before 9 6 (u := .slice (some ⟨b, 0, none⟩) z c) rfl m9 (by kernel_rfl) rfl
           clear hs
           go_simp
           exact hK s wx (fun _ _ => rfl) hR
          refine StepAll.cons (fun D s wx hR (hDi : D 2 = false) hd hsh a' hs K hK => ?_) ?_
          ·have e7 := hs.old 7 (u := .int .i64 (a : Int)) (by kernel_rfl) rfl
           clear hs
           go_simp
           exact hK s wx (fun _ _ => rfl) hR
          refine StepAll.cons (fun D s wx hR (hDi : D 3 = false) hd hsh a' hs K hK => ?_) ?_
          ·have e50 := hs.g 1 50 (.slice (some ⟨b, 0, none⟩) z c) (hd ⟨1, .data⟩ (by simp) rfl)
           have e51 := hs.g 2 51 (.int .i64 (a : Int)) (hd ⟨2, .data⟩ (by simp) rfl)
           clear hs
           go_simp
           exact hK s wx (fun _ _ => rfl) hR
          refine StepAll.cons (fun D s wx hR (hDi : D 4 = false) hd hsh a' hs K hK => ?_) ?_
          ·have e49 := hs.g 0 49 (.slice (some ⟨s.1, 0, none⟩) 0 0) (hd ⟨0, .data⟩ (by simp) rfl)
           have e52 := hs.g 3 52 (.slice (some ⟨b, 0, none⟩) a c) (hd ⟨3, .data⟩ (by simp) rfl)
           have g49 := getQ e49
           have g52 := getQ e52
           clear hs
           have n8 : D 8 = false := hsh.no hDi 8 rfl ⟨4, .data⟩ (by simp) rfl rfl
           have n9 : D 9 = false := hsh.no n8 9 rfl ⟨8, .data⟩ (by simp) rfl rfl
           have d0 : D 0 = true := hd ⟨0, .data⟩ (by simp) rfl
           have ho := hR.ownI 2 (v := .slice (some ⟨s.1, 0, none⟩) 0 0) (xs := []) (by simp only [n8, hDi, d0]; rfl)
           have hr := (rdI_prefix (hR.rdI' 1 (A := some ⟨b, 0, none⟩) (n := z) (c := c) (xs := q) rfl) a (by omega)).row
           simp only [List.length_nil] at ho
           refine wp_app1z elInt (.tmp 49) (.tmp 52) rfl 0 _ 0 _ e49 ho _ (some ⟨b, 0, none⟩) a c _ e52 hr (ints_cell _) (by omega) (by omega) (by omega) ?_
           intro v' w' hown hg hat
           obtain ⟨b4, c4, hv⟩ := own_form2 hown hat
           subst hv
           refine hK (s.1, (b4, c4), s.2.2) w'
            (fun j hj => by
             match j, hj with
             | 0, hj => rfl
             | 1, hj => rfl
             | 2, hj => rfl
             | 3, hj => rfl
             | 4, hj => rw [hDi] at hj; cases hj
             | 5, hj => rfl
             | 6, hj => rfl
             | 7, hj => rfl
             | 8, hj => rw [n8] at hj; cases hj
             | 9, hj => rw [n9] at hj; cases hj
             | _ + 10, hj => rfl)
            ((hR.appTo 2 (v := .slice (some ⟨s.1, 0, none⟩) 0 0) (xs := []) (ys := q.take a) (by simp only [n8, hDi, d0]; rfl) (by rw [HTK.out]; rfl) hown (fun y hy => (hR.rdI' 1 (A := some ⟨b, 0, none⟩) (n := z) (c := c) (xs := q) rfl).wf y (List.mem_of_mem_take hy)) hg hat).congr
             (fun i => by
              match i with
              | 0 => rfl
              | 1 => rfl
              | 2 => (show (if D 8 = true then _ else _) = _; rw [n8]; rfl)
              | q + 3 => exact (if_neg (show ¬ (q + 3 = 2) by omega)).symm))
          refine StepAll.cons (fun D s wx hR (hDi : D 5 = false) hd hsh a' hs K hK => ?_) ?_
          ·have m9 : D 9 = false := hsh.no hDi 9 rfl ⟨5, .phase⟩ (by simp) rfl rfl
           have e6 := hs.before 9 6 (u := .slice (some ⟨b, 0, none⟩) z c) rfl m9 (by kernel_rfl) rfl
           clear hs
           go_simp
           exact hK s wx (fun _ _ => rfl) hR
          refine StepAll.cons (fun D s wx hR (hDi : D 6 = false) hd hsh a' hs K hK => ?_) ?_
          ·have e9 := hs.old 9 (u := .int .i64 (m : Int)) (by kernel_rfl) rfl
           clear hs
           go_simp
           exact hK s wx (fun _ _ => rfl) hR
          refine StepAll.cons (fun D s wx hR (hDi : D 7 = false) hd hsh a' hs K hK => ?_) ?_
          ·have e54 := hs.g 5 54 (.slice (some ⟨b, 0, none⟩) z c) (hd ⟨5, .data⟩ (by simp) rfl)
           have e55 := hs.g 6 55 (.int .i64 (m : Int)) (hd ⟨6, .data⟩ (by simp) rfl)
           clear hs
           by_cases hlc : (m : Int) = (c : Nat)
           ·have hlc' : c = m := by omega
            have hlq : (c : Int) ≤ (z : Int) := by omega
            obtain ⟨rfl, rfl⟩ := HAL.out.1 hlc'
            go_simp
            exact hK s wx (fun _ _ => rfl) hR
           ·have hlc' : c ≠ m := by omega
            obtain ⟨rfl, rfl⟩ := HAL.out.2 hlc'
            go_simp
            exact hK s wx (fun _ _ => rfl) hR
          refine StepAll.cons (fun D s wx hR (hDi : D 8 = false) hd hsh a' hs K hK => ?_) ?_
          ·have e53 := hs.g 4 53 (.slice (some ⟨s.2.1.1, 0, none⟩) (0 + a) s.2.1.2) (hd ⟨4, .data⟩ (by simp) rfl)
           have e56 := hs.g 7 56 (.slice AL (z - m) CL) (hd ⟨7, .data⟩ (by simp) rfl)
           have g53 := getQ e53
           have g56 := getQ e56
           clear hs
           have n9 : D 9 = false := hsh.no hDi 9 rfl ⟨8, .data⟩ (by simp) rfl rfl
           have d4 : D 4 = true := hd ⟨4, .data⟩ (by simp) rfl
           have ho := hR.ownI 2 (v := .slice (some ⟨s.2.1.1, 0, none⟩) (0 + a) s.2.1.2) (xs := q.take a) (by simp only [hDi, d4]; rfl)
           rw [HTK.out] at ho
           have hr := hR.rdDrop 1 (g := b) (n := z) (c := c) (xs := q) (l := m) (AL := AL) rfl (by omega) HAL.out
           refine wp_app1z elInt (.tmp 53) (.tmp 56) rfl 0 _ a _ e53 ho _ AL (z - m) CL _ e56 hr (ints_cell _) (by omega) (by omega) (by omega) ?_
           intro v' w' hown hg hat
           obtain ⟨b8, c8, hv⟩ := own_form2 hown hat
           subst hv
           refine hK (s.1, s.2.1, (b8, c8)) w'
            (fun j hj => by
             match j, hj with
             | 0, hj => rfl
             | 1, hj => rfl
             | 2, hj => rfl
             | 3, hj => rfl
             | 4, hj => rfl
             | 5, hj => rfl
             | 6, hj => rfl
             | 7, hj => rfl
             | 8, hj => rw [hDi] at hj; cases hj
             | 9, hj => rw [n9] at hj; cases hj
             | _ + 10, hj => rfl)
            ((hR.appTo 2 (v := .slice (some ⟨s.2.1.1, 0, none⟩) (0 + a) s.2.1.2) (xs := q.take a) (ys := q.drop m) (by simp only [hDi, d4]; rfl) (by rw [HTK.out, HDR.out]) hown (fun y hy => (hR.rdI' 1 (A := some ⟨b, 0, none⟩) (n := z) (c := c) (xs := q) rfl).wf y (List.mem_of_mem_drop hy)) hg hat).congr
             (fun i => by
              match i with
              | 0 => rfl
              | 1 => rfl
              | 2 => rfl
              | q + 3 => exact (if_neg (show ¬ (q + 3 = 2) by omega)).symm))
          refine StepAll.cons (fun D s wx hR (hDi : D 9 = false) hd hsh a' hs K hK => ?_) ?_
          ·have e57 := hs.g 8 57 (.slice (some ⟨s.2.2.1, 0, none⟩) (a + (z - m)) s.2.2.2) (hd ⟨8, .data⟩ (by simp) rfl)
           clear hs
           go_simp
           exact hK s wx (fun _ _ => rfl) hR
          exact StepAll.nil
         ·intro D s wx hR hD
          simp only [putA, Act.put, List.setIfInBounds_toArray, List.set_cons_zero, List.set_cons_succ]
          have HS7' := hR.to_st [0, 2] (L := [rBlk w.heap.size 26 #[.int .i64 ts, .slice G gn gc, .slice G' n' c'], rInts (.slice (some ⟨s.2.2.1, 0, none⟩) (a + (z - m)) s.2.2.2) (q.take a ++ q.drop m)]) (by decide) (by simp only [List.map, hD 8 (by decide)]; rfl)
          have HS7 := Lib.hid HS7'
          clear hR hD HS6 HS7'
          go_wp2
          go_roundw
          case rel => exact ⟨a + 1, a + (z - m), _, _, q.take a ++ q.drop m, by go_num, rfl, by omega, by omega, HQL2, HSN2, HRQ2, HS7.out⟩
          case measure => simp only [lenV, intOf]; omega
        ·have hbe : (u2 == u) = false := by simpa using he
         have HNO2 : Bx (∀ j, m - 1 < j → j ≤ q.length → prun t q j ≠ prun t q a) := Bx.mk fun j h1 h2 => by
          by_cases hj : j = m
          ·subst hj; rw [HUP2.out, HUP.out]; exact he
          ·exact HNO.out j (by omega) h2
         clear he
         go_wp2
         go_roundw
         case rel => exact ⟨m - 1, by go_num, rfl, by omega, by omega, HNO2, HS6.out⟩
         case measure => simp [intOf]; omega
      ·obtain rfl : m = a := by omega
       have HSN2 : Bx (shortN t p (m + 1) = q) := Bx.mk (by
        show cutAt t (shortN t p m) m = _
        rw [HSN.out]; exact cutAt_none t q m HNO.out)
       go_wp2
       go_roundw
       case rel => exact ⟨m + 1, z, _, _, q, by go_num, rfl, by omega, by omega, HQL, HSN2, HRQ, HS5.out⟩
       case measure => simp only [lenV, intOf]; omega
   ·have HE : Bx ((planShort t p).getD [] = q) := Bx.mk (by
     rw [HY.out, Option.getD_some]
     have := shortN_past HSN.out (by rw [HQL.out]; omega) (41 - a)
     rwa [show a + (41 - a) = 41 by omega] at this)
    go_wp2
    refine bodyPost_ret (v := .tuple #[.slice (some ⟨b, 0, none⟩) z c, .bool true]) (by simp [results, Tryz.results123, go_sem]) rfl ⟨.slice (some ⟨b, 0, none⟩) z c, by rw [HY.out]; rfl, ?_⟩
    rw [HE.out]
    exact HS3.out.pick [1] (by decide) rfl rfl
end Go.Proofs.YtkmcengmglgdeaaGreatDoor
