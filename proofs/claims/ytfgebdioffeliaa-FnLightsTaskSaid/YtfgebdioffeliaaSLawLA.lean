/- The draw of FnLightsTask; 'proved' of the laws. Printed by gen_lawlt.py. -/
import Derived.Test.YtfgebdioffeliaaSLightD
import Derived.Test.YtfgebdioffeliaaSMayW
import Derived.Test.YtfgebdioffeliaaSBits
import Derived.Test.YtfgebdioffeliaaSBValid
import Derived.Test.YtfgebdioffeliaaSSame
namespace Go.Proofs.Ytfgebdioffeliaa
set_option linter.unusedVariables false
set_option linter.unusedSimpArgs false
open Go.ChangeShapes Go.WideShapes Go.ChangeAt Go.RowKit

theorem bits_par : ∀ z, z < 512 → bitSum z 40 % 2 = popc z % 2 := by decide +kernel
set_option maxRecDepth 100000 in
set_option maxHeartbeats 1000000 in
theorem drawLightsTask (A : Option Addr) (n c : Nat) (xs : List Int) (w : World) (h : RdI .u8 w w.heap.size A n c xs) :
    Calls Try.prog 4 #[.slice A n c] w fun e w' => ∃ v ys, ∃ s : Nat, e = .returned (.tuple #[v, .int .i64 (s : Int)]) ∧ s ≤ 1000 ∧ St w w' [rGraph v ys] := by
  have HB := Lib.hid ((St.refl w).alloc #[.slice none 0 0] 25)
  have H := Lib.hid (h.up HB.out.below)
  clear h
  go_enter Try.func4, Try.ntmps4
  go_wp2_with fail
  refine (l20Open_rd (St.refl _) H.out).mono ?_
  rintro e w1 ⟨g, rfl, s1⟩
  have HS1 := Lib.hid s1
  clear s1
  go_wp2_with fail
  refine (l20Lamp_rd HS1.out (by omega)).mono ?_
  rintro e w2 ⟨v2, ys, s, rfl, hs, s2⟩
  obtain ⟨A1, n1, c1, hv⟩ := s2.formG 0 rfl
  subst hv
  have HS2 := Lib.hid (HB.out.call s2)
  clear s2 HS1
  have q2 : ∀ j, w2.cell? ⟨w.heap.size, j, none⟩ = _ := HS2.out.cells 0 rfl
  have f2 := HS2.out.free 0 rfl
  have HS3 := Lib.hid ((HS2.out.set 0 rfl 0 (.slice A1 n1 c1)).tl)
  clear HS2
  go_wp2
  refine bodyPost_ret (v := .tuple #[.agg #[.slice A1 n1 c1], .int .i64 (s : Int)]) (by simp [results, Try.results4, go_sem, q2]) rfl ⟨_, ys, _, rfl, hs, HS3.out⟩
set_option maxRecDepth 100000 in
set_option maxHeartbeats 1000000 in
theorem proved_yes (A : Option Addr) (n c : Nat) (xs : List Int) (v : Nat) (tv : Value) (t : TaskD) (w : World) (h : RdI .i64 w w.heap.size A n c xs) (hg : graphOk xs = true) (hv : v < 512) (ht : RdT w w.heap.size tv t)
    (hex : ∃ q ∈ quietL xs (2 ^ n), popc (q.toNat &&& v) % 2 = 1) (hall : ∀ q ∈ quietL xs (2 ^ n), popc (q.toNat &&& v) % 2 = 1 → sumOk t q = true) :
    Calls Try.prog 18 #[.agg #[.slice A n c], .int .i64 v, tv] w fun e w' => e = .returned (.bool true) ∧ Below w.heap.size w w' := by
  obtain ⟨A1, j1, c1, A2, j2, c2, hv'⟩ := ht.form
  subst hv'
  have HL := Lib.hid h.len
  have hn9 : n ≤ 9 := by rw [← HL.out]; exact (graphOk_len xs hg).2
  have HS0 : Hid (St w ((w.alloc (.cells #[.slice A n c] 25)).alloc (.cells #[.int .i64 t.start, .slice A1 j1 c1, .slice A2 j2 c2] 30)) [rBlk w.heap.size 25 #[.slice A n c], rBlk (w.heap.size + 1) 30 #[.int .i64 t.start, .slice A1 j1 c1, .slice A2 j2 c2]]) := Lib.hid (by
    have := ((St.refl w).alloc #[.slice A n c] 25).alloc #[.int .i64 t.start, .slice A1 j1 c1, .slice A2 j2 c2] 30
    simpa using this)
  have H := Lib.hid h
  have HT := Lib.hid ht
  have HG := Lib.hid hg
  have HALL := Lib.hid hall
  have HEX := Lib.hid hex
  obtain ⟨hP1, hP2, hP3⟩ := pow9 hn9
  clear h hg ht hall hex hP3
  go_enter Try.func18, Try.ntmps18
  have q0 : ∀ j, ((w.alloc (.cells #[.slice A n c] 25)).alloc (.cells #[.int .i64 t.start, .slice A1 j1 c1, .slice A2 j2 c2] 30)).cell? ⟨w.heap.size, j, none⟩ = _ := HS0.out.cells 0 rfl
  go_wp2_with fail
  refine (quietSets_impl A n c xs _ (H.out.up HS0.out.below) HG.out).mono ?_
  rintro e w2 ⟨qv, rfl, s2⟩
  obtain ⟨qs, hqs⟩ : ∃ qs, quietL xs (2 ^ n) = qs := ⟨_, rfl⟩
  have HQS := Bx.mk hqs
  have hml := quietL_len xs (2 ^ n)
  rw [hqs] at s2 hml
  obtain ⟨m, hm⟩ : ∃ m, qs.length = m := ⟨_, rfl⟩
  obtain ⟨Q, d, hv⟩ := s2.formL 0 rfl hm
  simp only [id_eq] at hv ⊢
  subst hv
  rw [hm] at hml
  have HM := Lib.hid hm
  have HS2 : Hid (St w w2 [rBlk w.heap.size 25 #[.slice A n c], rBlk (w.heap.size + 1) 30 #[.int .i64 t.start, .slice A1 j1 c1, .slice A2 j2 c2], rInts (.slice Q m d) qs]) := Lib.hid (HS0.out.call s2)
  clear s2 HS0 q0 hqs hm
  go_wp2
  go_loopw [8] (fun i wr => ∃ k : Nat, k ≤ m ∧ i = .int .i64 k ∧ Hid (∀ j, j < k → ∀ q, qs[j]? = some q → popc (q.toNat &&& v) % 2 = 0) ∧ St w wr [rBlk w.heap.size 25 #[.slice A n c], rBlk (w.heap.size + 1) 30 #[.int .i64 t.start, .slice A1 j1 c1, .slice A2 j2 c2], rInts (.slice Q m d) qs]) (fun i _ => m - (intOf i).toNat)
  case atStart => exact ⟨0, by omega, rfl, Lib.hid (by omega), HS2.out⟩
  case round =>
    clear HS2
    obtain ⟨k, hk, rfl, HP, S⟩ := hrel
    have HS := Lib.hid S
    clear S
    by_cases hlt : k < m
    · obtain ⟨b, off, x, rfl, hbl, hx, -, hxc⟩ := (HS.out.rdI' 2 rfl).get hlt
      obtain ⟨q, rfl, hq1, hq2⟩ := quietL_at (xs := xs) (m := 2 ^ n) (by rw [HQS.out]; exact hx)
      have hq512 : q < 512 := by omega
      have hand2 : q &&& v < 512 := Nat.lt_of_le_of_lt Nat.and_le_left hq512
      have HX := Bx.mk hx
      have HQC := Bx.mk hxc
      have HBL := Bx.mk hbl
      have hb1 : (w.heap.size + 1) < wr.heap.size := (HS.out.blk 1 rfl).lt
      have HB1 := Bx.mk hb1
      have k1 := HS.out.blk 1 rfl
      have HT0 := Bx.mk (k1.cell 0)
      have HT1 := Bx.mk (k1.cell 1)
      have HT2 := Bx.mk (k1.cell 2)
      obtain ⟨z, hz⟩ : ∃ z, q &&& v = z := ⟨_, rfl⟩
      have HZ := Bx.mk hz
      rw [hz] at hand2
      obtain ⟨bz, hbz⟩ : ∃ bz, bitSum z 40 = bz := ⟨_, rfl⟩
      have HBZ := Bx.mk hbz
      have hpar := bits_par z hand2
      rw [hbz] at hpar
      have HTV : Hid (RdT wr wr.heap.size (.agg #[.int .i64 t.start, .slice A1 j1 c1, .slice A2 j2 c2]) t) := Lib.hid (HT.out.up HS.out.below)
      clear hx hz hq1 hq2 hbl hxc hb1 k1 hbz
      by_cases hodd : bz % 2 = 1
      · have HTM := Bx.mk (tmodP2 bz 1 hodd)
        have HSUM : Hid (sumOk t (q : Int) = true) := Lib.hid (HALL.out _ (by rw [HQS.out]; exact List.mem_of_getElem? HX.out) (by rw [Int.toNat_natCast, HZ.out, ← hpar, hodd]))
        clear hpar hodd
        go_upto_region 5 with (fail)
        refine wp_reg (σ := Unit) (by kernel_rfl) (by kernel_rfl) (by kernel_rfl)
          (fun _ i => match i with
            | 0 => .slice (some ⟨b, off, none⟩) m d
            | 1 => .int .i64 (k : Nat)
            | 2 => .pointer (some ⟨b, off + k, none⟩)
            | 3 => .int .i64 (q : Nat)
            | 4 => .int .i64 (v : Nat)
            | 5 => .int .i64 (z : Nat)
            | 6 => .int .i64 (bz : Nat)
            | 7 => .int .i64 1
            | 8 => .bool true
            | 9 => .bool true
            | 10 => .agg #[.int .i64 t.start, .slice A1 j1 c1, .slice A2 j2 c2]
            | 11 => .slice (some ⟨b, off, none⟩) m d
            | 12 => .int .i64 (k : Nat)
            | 13 => .pointer (some ⟨b, off + k, none⟩)
            | 14 => .int .i64 (q : Nat)
            | 15 => .bool true
            | 16 => .bool true
            | _ => undef)
          (fun D _ wx => Below wr.heap.size wr wx)
          () ?_ ?_ ?_
        · intro D hD
          exact (Below.refl _ _).drew
        · refine StepAll.cons (fun D s wx hR (hDi : D 0 = false) hd hsh a' hs K hK => ?_) ?_
          · have e7 := hs.old 7 (u := .slice (some ⟨b, off, none⟩) m d) (by kernel_rfl) rfl
            clear hs
            go_simp
            exact hK () wx (fun _ _ => rfl) hR
          refine StepAll.cons (fun D s wx hR (hDi : D 1 = false) hd hsh a' hs K hK => ?_) ?_
          · have e8 := hs.old 8 (u := .int .i64 (k : Nat)) (by kernel_rfl) rfl
            clear hs
            go_simp
            exact hK () wx (fun _ _ => rfl) hR
          refine StepAll.cons (fun D s wx hR (hDi : D 2 = false) hd hsh a' hs K hK => ?_) ?_
          · have e17 := hs.at_ 0 17 (u := .slice (some ⟨b, off, none⟩) m d) rfl (hd ⟨0, .data⟩ (by simp) rfl) (by kernel_rfl) (by kernel_rfl) rfl
            have e18 := hs.at_ 1 18 (u := .int .i64 (k : Nat)) rfl (hd ⟨1, .data⟩ (by simp) rfl) (by kernel_rfl) (by kernel_rfl) rfl
            clear hs
            go_simp
            exact hK () wx (fun _ _ => rfl) hR
          refine StepAll.cons (fun D s wx hR (hDi : D 3 = false) hd hsh a' hs K hK => ?_) ?_
          · have e19 := hs.at_ 2 19 (u := .pointer (some ⟨b, off + k, none⟩)) rfl (hd ⟨2, .data⟩ (by simp) rfl) (by kernel_rfl) (by kernel_rfl) rfl
            clear hs
            have c0 : wx.cell? ⟨b, off + k, none⟩ = some (.int .i64 (q : Nat)) := (bcells hR _ _ HBL.out).trans HQC.out
            go_simp
            exact hK () wx (fun _ _ => rfl) hR
          refine StepAll.cons (fun D s wx hR (hDi : D 4 = false) hd hsh a' hs K hK => ?_) ?_
          · have e1 := hs.old 1 (u := .int .i64 (v : Nat)) (by kernel_rfl) rfl
            clear hs
            go_simp
            exact hK () wx (fun _ _ => rfl) hR
          refine StepAll.cons (fun D s wx hR (hDi : D 5 = false) hd hsh a' hs K hK => ?_) ?_
          · have e20 := hs.at_ 3 20 (u := .int .i64 (q : Nat)) rfl (hd ⟨3, .data⟩ (by simp) rfl) (by kernel_rfl) (by kernel_rfl) rfl
            have e21 := hs.at_ 4 21 (u := .int .i64 (v : Nat)) rfl (hd ⟨4, .data⟩ (by simp) rfl) (by kernel_rfl) (by kernel_rfl) rfl
            have g20 := getQ e20
            have g21 := getQ e21
            clear hs
            go_simp
            refine (lawBoth_nat q v (by omega) wx).mono ?_
            rintro e2 w2 ⟨rfl, rfl⟩
            rw [HZ.out]
            exact hK () wx (fun _ _ => rfl) hR
          refine StepAll.cons (fun D s wx hR (hDi : D 6 = false) hd hsh a' hs K hK => ?_) ?_
          · have e22 := hs.at_ 5 22 (u := .int .i64 (z : Nat)) rfl (hd ⟨5, .data⟩ (by simp) rfl) (by kernel_rfl) (by kernel_rfl) rfl
            have g22 := getQ e22
            clear hs
            go_simp
            refine (lawBits_nat z wx).mono ?_
            rintro e2 w2 ⟨rfl, rfl⟩
            rw [HBZ.out]
            exact hK () wx (fun _ _ => rfl) hR
          refine StepAll.cons (fun D s wx hR (hDi : D 7 = false) hd hsh a' hs K hK => ?_) ?_
          · have e23 := hs.at_ 6 23 (u := .int .i64 (bz : Nat)) rfl (hd ⟨6, .data⟩ (by simp) rfl) (by kernel_rfl) (by kernel_rfl) rfl
            clear hs
            have htm := HTM.out
            go_simp
            exact hK () wx (fun _ _ => rfl) hR
          refine StepAll.cons (fun D s wx hR (hDi : D 8 = false) hd hsh a' hs K hK => ?_) ?_
          · have e24 := hs.at_ 7 24 (u := .int .i64 1) rfl (hd ⟨7, .data⟩ (by simp) rfl) (by kernel_rfl) (by kernel_rfl) rfl
            clear hs
            go_simp
            exact hK () wx (fun _ _ => rfl) hR
          refine StepAll.cons (fun D s wx hR (hDi : D 9 = false) hd hsh a' hs K hK => ?_) ?_
          · have e25 := hs.at_ 8 25 (u := .bool true) rfl (hd ⟨8, .data⟩ (by simp) rfl) (by kernel_rfl) (by kernel_rfl) rfl
            clear hs
            go_simp
            exact hK () wx (fun _ _ => rfl) hR
          refine StepAll.consG (fun D s wx hR (hDi : D 10 = false) hd hsh a' hs K hK => ?_) ?_
          · have eg := hs.at_ 9 26 (u := .bool true) rfl (hd ⟨9, .guard⟩ (by simp) rfl) (by kernel_rfl) (by kernel_rfl) rfl
            rw [if_pos (by rw [hs.wants (j := 9) (t := 26) rfl rfl eg (by kernel_rfl)]; rfl)]
            have e5 := hs.old 5 (u := .pointer (some ⟨(w.heap.size + 1), 0, none⟩)) (by kernel_rfl) rfl
            clear hs
            have c0 : wx.cell? ⟨(w.heap.size + 1), 0, none⟩ = some (.int .i64 t.start) := (bcells hR _ _ HB1.out).trans HT0.out
            have c1 : wx.cell? ⟨(w.heap.size + 1), 1, none⟩ = some (.slice A1 j1 c1) := (bcells hR _ _ HB1.out).trans HT1.out
            have c2 : wx.cell? ⟨(w.heap.size + 1), 2, none⟩ = some (.slice A2 j2 c2) := (bcells hR _ _ HB1.out).trans HT2.out
            go_simp
            exact hK () wx (fun _ _ => rfl) hR
          refine StepAll.consG (fun D s wx hR (hDi : D 11 = false) hd hsh a' hs K hK => ?_) ?_
          · have eg := hs.at_ 9 26 (u := .bool true) rfl (hd ⟨9, .guard⟩ (by simp) rfl) (by kernel_rfl) (by kernel_rfl) rfl
            rw [if_pos (by rw [hs.wants (j := 9) (t := 26) rfl rfl eg (by kernel_rfl)]; rfl)]
            have e7 := hs.old 7 (u := .slice (some ⟨b, off, none⟩) m d) (by kernel_rfl) rfl
            clear hs
            go_simp
            exact hK () wx (fun _ _ => rfl) hR
          refine StepAll.consG (fun D s wx hR (hDi : D 12 = false) hd hsh a' hs K hK => ?_) ?_
          · have eg := hs.at_ 9 26 (u := .bool true) rfl (hd ⟨9, .guard⟩ (by simp) rfl) (by kernel_rfl) (by kernel_rfl) rfl
            rw [if_pos (by rw [hs.wants (j := 9) (t := 26) rfl rfl eg (by kernel_rfl)]; rfl)]
            have e8 := hs.old 8 (u := .int .i64 (k : Nat)) (by kernel_rfl) rfl
            clear hs
            go_simp
            exact hK () wx (fun _ _ => rfl) hR
          refine StepAll.consG (fun D s wx hR (hDi : D 13 = false) hd hsh a' hs K hK => ?_) ?_
          · have eg := hs.at_ 9 26 (u := .bool true) rfl (hd ⟨9, .guard⟩ (by simp) rfl) (by kernel_rfl) (by kernel_rfl) rfl
            rw [if_pos (by rw [hs.wants (j := 9) (t := 26) rfl rfl eg (by kernel_rfl)]; rfl)]
            have e28 := hs.at_ 11 28 (u := .slice (some ⟨b, off, none⟩) m d) rfl (hd ⟨11, .data⟩ (by simp) rfl) (by kernel_rfl) (by kernel_rfl) rfl
            have e29 := hs.at_ 12 29 (u := .int .i64 (k : Nat)) rfl (hd ⟨12, .data⟩ (by simp) rfl) (by kernel_rfl) (by kernel_rfl) rfl
            clear hs
            go_simp
            exact hK () wx (fun _ _ => rfl) hR
          refine StepAll.consG (fun D s wx hR (hDi : D 14 = false) hd hsh a' hs K hK => ?_) ?_
          · have eg := hs.at_ 9 26 (u := .bool true) rfl (hd ⟨9, .guard⟩ (by simp) rfl) (by kernel_rfl) (by kernel_rfl) rfl
            rw [if_pos (by rw [hs.wants (j := 9) (t := 26) rfl rfl eg (by kernel_rfl)]; rfl)]
            have e30 := hs.at_ 13 30 (u := .pointer (some ⟨b, off + k, none⟩)) rfl (hd ⟨13, .data⟩ (by simp) rfl) (by kernel_rfl) (by kernel_rfl) rfl
            clear hs
            have c0 : wx.cell? ⟨b, off + k, none⟩ = some (.int .i64 (q : Nat)) := (bcells hR _ _ HBL.out).trans HQC.out
            go_simp
            exact hK () wx (fun _ _ => rfl) hR
          refine StepAll.consG (fun D s wx hR (hDi : D 15 = false) hd hsh a' hs K hK => ?_) ?_
          · have eg := hs.at_ 9 26 (u := .bool true) rfl (hd ⟨9, .guard⟩ (by simp) rfl) (by kernel_rfl) (by kernel_rfl) rfl
            rw [if_pos (by rw [hs.wants (j := 9) (t := 26) rfl rfl eg (by kernel_rfl)]; rfl)]
            have e27 := hs.at_ 10 27 (u := .agg #[.int .i64 t.start, .slice A1 j1 c1, .slice A2 j2 c2]) rfl (hd ⟨10, .data⟩ (by simp) rfl) (by kernel_rfl) (by kernel_rfl) rfl
            have e31 := hs.at_ 14 31 (u := .int .i64 (q : Nat)) rfl (hd ⟨14, .data⟩ (by simp) rfl) (by kernel_rfl) (by kernel_rfl) rfl
            have g27 := getQ e27
            have g31 := getQ e31
            clear hs
            go_simp
            refine (sumOk_yes _ t q _ (HTV.out.up hR) HSUM.out).mono ?_
            rintro e2 w2 ⟨rfl, hb2⟩
            exact hK () w2 (fun _ _ => rfl) (hR.trans (hb2.mono hR.size))
          refine StepAll.cons (fun D s wx hR (hDi : D 16 = false) hd hsh a' hs K hK => ?_) ?_
          · have e26 := hs.at_ 9 26 (u := .bool true) rfl (hd ⟨9, .data⟩ (by simp) rfl) (by kernel_rfl) (by kernel_rfl) rfl
            have e32 := hs.at_ 15 32 (u := .bool true) rfl (hd ⟨15, .data⟩ (by simp) rfl) (by kernel_rfl) (by kernel_rfl) rfl
            clear hs
            go_simp
            exact hK () wx (fun _ _ => rfl) hR
          exact StepAll.nil
        · intro D s wx hR hD
          simp only [putA, Act.put, List.setIfInBounds_toArray, List.set_cons_zero, List.set_cons_succ]
          have HSB := Lib.hid (HS.out.quiet hR)
          clear hR hD HS
          go_wp2
          go_ret
          exact ⟨rfl, HSB.out.below⟩
      · have hev : bz % 2 = 0 := by omega
        have HTM := Bx.mk (tmodP2 bz 0 hev)
        have HP2 : Hid (∀ j, j < k + 1 → ∀ q, qs[j]? = some q → popc (q.toNat &&& v) % 2 = 0) := Lib.hid fun j hj y hy => by
          rcases Nat.lt_or_ge j k with h1 | h1
          · exact HP.out j h1 y hy
          · have : j = k := by omega
            subst this
            rw [HX.out] at hy
            cases hy
            rw [Int.toNat_natCast, HZ.out, ← hpar, hev]
        clear hpar hodd hev
        go_upto_region 5 with (fail)
        refine wp_reg (σ := Unit) (by kernel_rfl) (by kernel_rfl) (by kernel_rfl)
          (fun _ i => match i with
            | 0 => .slice (some ⟨b, off, none⟩) m d
            | 1 => .int .i64 (k : Nat)
            | 2 => .pointer (some ⟨b, off + k, none⟩)
            | 3 => .int .i64 (q : Nat)
            | 4 => .int .i64 (v : Nat)
            | 5 => .int .i64 (z : Nat)
            | 6 => .int .i64 (bz : Nat)
            | 7 => .int .i64 0
            | 8 => .bool false
            | 9 => .bool false
            | 16 => .bool false
            | _ => undef)
          (fun D _ wx => Below wr.heap.size wr wx)
          () ?_ ?_ ?_
        · intro D hD
          exact (Below.refl _ _).drew
        · refine StepAll.cons (fun D s wx hR (hDi : D 0 = false) hd hsh a' hs K hK => ?_) ?_
          · have e7 := hs.old 7 (u := .slice (some ⟨b, off, none⟩) m d) (by kernel_rfl) rfl
            clear hs
            go_simp
            exact hK () wx (fun _ _ => rfl) hR
          refine StepAll.cons (fun D s wx hR (hDi : D 1 = false) hd hsh a' hs K hK => ?_) ?_
          · have e8 := hs.old 8 (u := .int .i64 (k : Nat)) (by kernel_rfl) rfl
            clear hs
            go_simp
            exact hK () wx (fun _ _ => rfl) hR
          refine StepAll.cons (fun D s wx hR (hDi : D 2 = false) hd hsh a' hs K hK => ?_) ?_
          · have e17 := hs.at_ 0 17 (u := .slice (some ⟨b, off, none⟩) m d) rfl (hd ⟨0, .data⟩ (by simp) rfl) (by kernel_rfl) (by kernel_rfl) rfl
            have e18 := hs.at_ 1 18 (u := .int .i64 (k : Nat)) rfl (hd ⟨1, .data⟩ (by simp) rfl) (by kernel_rfl) (by kernel_rfl) rfl
            clear hs
            go_simp
            exact hK () wx (fun _ _ => rfl) hR
          refine StepAll.cons (fun D s wx hR (hDi : D 3 = false) hd hsh a' hs K hK => ?_) ?_
          · have e19 := hs.at_ 2 19 (u := .pointer (some ⟨b, off + k, none⟩)) rfl (hd ⟨2, .data⟩ (by simp) rfl) (by kernel_rfl) (by kernel_rfl) rfl
            clear hs
            have c0 : wx.cell? ⟨b, off + k, none⟩ = some (.int .i64 (q : Nat)) := (bcells hR _ _ HBL.out).trans HQC.out
            go_simp
            exact hK () wx (fun _ _ => rfl) hR
          refine StepAll.cons (fun D s wx hR (hDi : D 4 = false) hd hsh a' hs K hK => ?_) ?_
          · have e1 := hs.old 1 (u := .int .i64 (v : Nat)) (by kernel_rfl) rfl
            clear hs
            go_simp
            exact hK () wx (fun _ _ => rfl) hR
          refine StepAll.cons (fun D s wx hR (hDi : D 5 = false) hd hsh a' hs K hK => ?_) ?_
          · have e20 := hs.at_ 3 20 (u := .int .i64 (q : Nat)) rfl (hd ⟨3, .data⟩ (by simp) rfl) (by kernel_rfl) (by kernel_rfl) rfl
            have e21 := hs.at_ 4 21 (u := .int .i64 (v : Nat)) rfl (hd ⟨4, .data⟩ (by simp) rfl) (by kernel_rfl) (by kernel_rfl) rfl
            have g20 := getQ e20
            have g21 := getQ e21
            clear hs
            go_simp
            refine (lawBoth_nat q v (by omega) wx).mono ?_
            rintro e2 w2 ⟨rfl, rfl⟩
            rw [HZ.out]
            exact hK () wx (fun _ _ => rfl) hR
          refine StepAll.cons (fun D s wx hR (hDi : D 6 = false) hd hsh a' hs K hK => ?_) ?_
          · have e22 := hs.at_ 5 22 (u := .int .i64 (z : Nat)) rfl (hd ⟨5, .data⟩ (by simp) rfl) (by kernel_rfl) (by kernel_rfl) rfl
            have g22 := getQ e22
            clear hs
            go_simp
            refine (lawBits_nat z wx).mono ?_
            rintro e2 w2 ⟨rfl, rfl⟩
            rw [HBZ.out]
            exact hK () wx (fun _ _ => rfl) hR
          refine StepAll.cons (fun D s wx hR (hDi : D 7 = false) hd hsh a' hs K hK => ?_) ?_
          · have e23 := hs.at_ 6 23 (u := .int .i64 (bz : Nat)) rfl (hd ⟨6, .data⟩ (by simp) rfl) (by kernel_rfl) (by kernel_rfl) rfl
            clear hs
            have htm := HTM.out
            go_simp
            exact hK () wx (fun _ _ => rfl) hR
          refine StepAll.cons (fun D s wx hR (hDi : D 8 = false) hd hsh a' hs K hK => ?_) ?_
          · have e24 := hs.at_ 7 24 (u := .int .i64 0) rfl (hd ⟨7, .data⟩ (by simp) rfl) (by kernel_rfl) (by kernel_rfl) rfl
            clear hs
            go_simp
            exact hK () wx (fun _ _ => rfl) hR
          refine StepAll.cons (fun D s wx hR (hDi : D 9 = false) hd hsh a' hs K hK => ?_) ?_
          · have e25 := hs.at_ 8 25 (u := .bool false) rfl (hd ⟨8, .data⟩ (by simp) rfl) (by kernel_rfl) (by kernel_rfl) rfl
            clear hs
            go_simp
            exact hK () wx (fun _ _ => rfl) hR
          refine StepAll.skip 9 26 false ?_
          refine StepAll.skip 9 26 false ?_
          refine StepAll.skip 9 26 false ?_
          refine StepAll.skip 9 26 false ?_
          refine StepAll.skip 9 26 false ?_
          refine StepAll.skip 9 26 false ?_
          refine StepAll.cons (fun D s wx hR (hDi : D 16 = false) hd hsh a' hs K hK => ?_) ?_
          · have e26 := hs.at_ 9 26 (u := .bool false) rfl (hd ⟨9, .data⟩ (by simp) rfl) (by kernel_rfl) (by kernel_rfl) rfl
            have e32 := hs.at_ 15 32 (u := undef) rfl (hd ⟨15, .data⟩ (by simp) rfl) (by kernel_rfl) (by kernel_rfl) rfl
            clear hs
            go_simp
            exact hK () wx (fun _ _ => rfl) hR
          exact StepAll.nil
        · intro D s wx hR hD
          simp only [putA, Act.put, List.setIfInBounds_toArray, List.set_cons_zero, List.set_cons_succ]
          have HSB := Lib.hid (HS.out.quiet hR)
          clear hR hD HS
          go_wp2
          go_roundw
          case rel => exact ⟨k + 1, by omega, by go_num, HP2, HSB.out⟩
          case measure => simp [intOf]; omega
    · exfalso
      obtain ⟨x, hx, hpx⟩ := HEX.out
      rw [HQS.out] at hx
      obtain ⟨j, hj⟩ := List.mem_iff_getElem?.1 hx
      have := HP.out j (by have := (List.getElem?_eq_some_iff.1 hj).1; rw [HM.out] at this; omega) x hj
      omega
end Go.Proofs.Ytfgebdioffeliaa
