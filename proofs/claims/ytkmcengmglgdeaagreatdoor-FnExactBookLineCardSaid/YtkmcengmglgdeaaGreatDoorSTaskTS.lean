/- Joined texts: TaskTS, LineS, RFnExactBookLine, LaidP. -/
import Derived.Test.YtkmcengmglgdeaaGreatDoorSCondW
import Derived.Test.YtkmcengmglgdeaaGreatDoorSCondS
import Derived.Test.YtkmcengmglgdeaaGreatDoorSLineI
import Derived.Test.YtkmcengmglgdeaaGreatDoorSDoS
import Derived.Test.YtkmcengmglgdeaaGreatDoorSRightS
import Derived.Test.YtkmcengmglgdeaaGreatDoorSActR
import Derived.Deep.Cut
import Derived.Test.YtkmcengmglgdeaaGreatDoorSActsH
import Derived.Test.YtkmcengmglgdeaaGreatDoorSLaid
import Derived.Test.YtkmcengmglgdeaaGreatDoorSSplitW
import Derived.Lib.LaidTab

namespace Go.Proofs.YtkmcengmglgdeaaGreatDoor
set_option linter.unusedVariables false
set_option linter.unusedSimpArgs false
open Go.ChangeShapes Go.WideShapes Go.ChangeAt Go.RowKit

set_option maxRecDepth 100000 in
set_option maxHeartbeats 1000000 in
theorem taskText_spec (v : Value) (t : TaskD) (w : World) (h : RdT w w.heap.size v t) (hok : taskOk t = true) :
  Calls Tryz.prog 60 #[v] w fun e w' => e = .returned (.string ⟨(taskT t).toArray⟩) ∧ Below w.heap.size w w' := by
 have h' := h; obtain ⟨G, gn, gc, G', n', c', rfl, hg, hgs, hds, hst⟩ := h; have HV := Lib.hid h'; have HGL := Lib.hid hg; have HGN := Lib.hid hgs; have HDS := Lib.hid hds; have HOK := Lib.hid hok; obtain ⟨hs01, -, hn6, hdok⟩ := taskOk_parts t hok; obtain ⟨st, hst'⟩ : ∃ x, t.start = x := ⟨_, rfl⟩; obtain ⟨s0, rfl⟩ := Int.eq_ofNat_of_zero_le (show 0 ≤ st by omega); have hs32 : s0 < 32 := by omega
 have HDOK := Lib.hid hdok; have hn6' : n' ≤ 6 := by rw [← hds.len]; exact hn6
 have HDL := Lib.hid hds.len; have HST : Hid (t.start.toNat = s0) := Lib.hid (by rw [hst']; simp); rw [hst'] at HV ⊢
 have HSP := Lib.hid (taskT_split t); have HHL := Lib.hid (headT_len t); obtain ⟨SA, hSA⟩ : ∃ x : ByteArray, (⟨(letT s0).toArray⟩ : ByteArray) = x := ⟨_, rfl⟩; obtain ⟨SC, hSC⟩ : ∃ x : ByteArray, (⟨(codeT t.goal).toArray⟩ : ByteArray) = x := ⟨_, rfl⟩; have z1 : SA.size ≤ 5 := by rw [← hSA, sz_list]; exact letT_len s0
 have z2 : SC.size ≤ 200 := by rw [← hSC, sz_list]; exact codeT_len _
 have HN1 := Lib.hid (show ¬ 9223372036854775807 < SA.size + 1 by omega); have HN2 := Lib.hid (show ¬ 9223372036854775807 < SA.size + 1 + SC.size by omega); have HSA := Bx.mk hSA; have HSC := Bx.mk hSC
 have HQ0 : Hid (SA ++ ⟨#[62]⟩ ++ SC = ⟨(headT t ++ (t.deeds.take 0).flatMap deedT).toArray⟩) := Lib.hid (by
  rw [List.take_zero, List.flatMap_nil, List.append_nil]
  unfold headT
  rw [HST.out, ← hSA, ← hSC]
  exact ba3S _ _ _)
 have HS0 := Lib.hid ((St.refl w).alloc #[.int .i64 (s0 : Int), .slice G gn gc, .slice G' n' c'] 26); clear h' hg hgs hds hst hok hs01 hn6 hdok hst' hSA hSC z1 z2; go_enter Tryz.func60, Tryz.ntmps60
 go_wp2_with fail
 refine (taskValid_spec _ t _ (HV.out.up HS0.out.below)).mono ?_; rw [HOK.out]; rintro e w1 ⟨rfl, hb1⟩; have HS1 := Lib.hid (HS0.out.quiet hb1); have C0 := Lib.hid (HS1.out.cells 0 rfl 0); have C1 := Lib.hid (HS1.out.cells 0 rfl 1); have HG0 : Hid (w.heap.size < w1.heap.size) := Lib.hid (HS1.out.new 0 rfl).2; clear hb1 HS0
 go_upto_region 3 with (fail)
 refine wp_reg (σ := Unit) (by kernel_rfl) (by kernel_rfl) (by kernel_rfl)
  (fun _ i => match i with
  | 0 => .pointer (some ⟨w.heap.size, 0, none⟩)
  | 1 => .int .i64 (s0 : Int)
  | 2 => .string SA
  | 3 => .string (SA ++ ⟨#[62]⟩)
  | 4 => .pointer (some ⟨w.heap.size, 1, none⟩)
  | 5 => .slice G gn gc
  | 6 => .string SC
  | 7 => .string (SA ++ ⟨#[62]⟩ ++ SC)
  | 8 => .string (SA ++ ⟨#[62]⟩ ++ SC)
  | _ => undef)
  (fun D _ wx => Below w1.heap.size w1 wx) () (fun D hD => (Below.refl _ _).drew) ?_ ?_
 ·refine Cs (fun D _ wx hR hDi hd hsh a' hs K hK => ?_) ?_
  ·have e1 := hs.o 1 (.pointer (some ⟨w.heap.size, 0, none⟩)); clear hs; go_simp; exact hK () wx sv hR
  refine Cs (fun D _ wx hR hDi hd hsh a' hs K hK => ?_) ?_
  ·have e9 := hs.v 0 9 hd; clear hs; have c0 : wx.cell? ⟨w.heap.size, 0, none⟩ = some (.int .i64 (s0 : Int)) := (bcells hR _ _ HG0.out).trans C0.out; go_simp; exact hK () wx sv hR
  refine Cs (fun D _ wx hR hDi hd hsh a' hs K hK => ?_) ?_
  ·have e10 := hs.v 1 10 hd; have g10 := getQ e10; clear hs; go_simp; refine (l6Letters_any s0 hs32 wx).mono ?_; rw [HSA.out]; rintro e2 w2 ⟨rfl, hb2⟩; exact hK () w2 sv (hR.trans (hb2.mono hR.size))
  refine Cs (fun D _ wx hR hDi hd hsh a' hs K hK => ?_) ?_
  ·have e11 := hs.v 2 11 hd; clear hs; have q1 := HN1.out; go_simp; exact hK () wx sv hR
  refine Cs (fun D _ wx hR hDi hd hsh a' hs K hK => ?_) ?_
  ·have e1 := hs.o 1 (.pointer (some ⟨w.heap.size, 0, none⟩)); clear hs; go_simp; exact hK () wx sv hR
  refine Cs (fun D _ wx hR hDi hd hsh a' hs K hK => ?_) ?_
  ·have e13 := hs.v 4 13 hd; clear hs; have c0 : wx.cell? ⟨w.heap.size, 1, none⟩ = some (.slice G gn gc) := (bcells hR _ _ HG0.out).trans C1.out; go_simp; exact hK () wx sv hR
  refine Cs (fun D _ wx hR hDi hd hsh a' hs K hK => ?_) ?_
  ·have e14 := hs.v 5 14 hd; have g14 := getQ e14; clear hs; go_simp; refine (codeText_spec G gn gc t.goal wx (HGL.out.up ((HS1.out.below).trans (hR.mono HS1.out.below.size))) (by have := HGN.out; omega)).mono ?_; rw [HSC.out]; rintro e2 w2 ⟨rfl, hb2⟩; exact hK () w2 sv (hR.trans (hb2.mono hR.size))
  refine Cs (fun D _ wx hR hDi hd hsh a' hs K hK => ?_) ?_
  ·have e12 := hs.v 3 12 hd; have e15 := hs.v 6 15 hd; clear hs; have q1 := HN2.out; go_simp; exact hK () wx sv hR
  refine Cs (fun D _ wx hR hDi hd hsh a' hs K hK => ?_) ?_
  ·have e16 := hs.v 7 16 hd; clear hs; go_simp; exact hK () wx sv hR
  exact StepAll.nil
 intro D _ wx hR hD; simp only [putA, Act.put, List.setIfInBounds_toArray, List.set_cons_zero, List.set_cons_succ]; have HS2 := Lib.hid (HS1.out.quiet hR); clear hR hD HS1 C0 C1 HG0; go_wp2
 go_loopw [4, 3] (fun i v wr => ∃ (k : Nat) (q : ByteArray), k ≤ n' ∧ i = .int .i64 k ∧ v = .string q ∧ Hid (q = ⟨(headT t ++ (t.deeds.take k).flatMap deedT).toArray⟩) ∧ St w wr [rBlk w.heap.size 26 #[.int .i64 (s0 : Int), .slice G gn gc, .slice G' n' c']]) (fun i _ _ => n' - (intOf i).toNat)
 case atStart => exact ⟨0, _, by omega, rfl, rfl, HQ0, HS2.out⟩
 case round =>
  clear HS2 HQ0; obtain ⟨k, q, hk, rfl, rfl, HQ, S⟩ := hrel; have HS := Lib.hid S; clear S; have c2 : wr.cell? ⟨w.heap.size, 2, none⟩ = some (.slice G' n' c') := HS.out.cells 0 rfl 2
  by_cases hlt : k < n'
  ·obtain ⟨db, off, d, rfl, hdb, hd, hda⟩ := HDS.out.get hlt; obtain ⟨An, nn, cn, p0, p1, p2, p3, hneed, hnn, -⟩ := hda; have r0 : wr.cell? ⟨db, off + k * 4, none⟩ = some (.slice An nn cn) := (bcells HS.out.below db _ hdb).trans p0; have r1 : wr.cell? ⟨db, off + k * 4 + 1, none⟩ = some (.int .i64 d.on) := (bcells HS.out.below db _ hdb).trans p1; have r2 : wr.cell? ⟨db, off + k * 4 + 2, none⟩ = some (.int .i64 d.off) := (bcells HS.out.below db _ hdb).trans p2; have r3 : wr.cell? ⟨db, off + k * 4 + 3, none⟩ = some (.int .i64 d.flip) := (bcells HS.out.below db _ hdb).trans p3; obtain ⟨⟨o1, o2⟩, ⟨f1, f2⟩, x1, x2⟩ := deed_sets (HDOK.out d (List.mem_of_getElem? hd)); have HSN_ := Lib.hid (deeds_snoc hd); obtain ⟨don, hon⟩ : ∃ x, d.on = x := ⟨_, rfl⟩; obtain ⟨dof, hof⟩ : ∃ x, d.off = x := ⟨_, rfl⟩; obtain ⟨dfl, hfl⟩ : ∃ x, d.flip = x := ⟨_, rfl⟩; have HDT : Hid (deedT d = 59 :: (codeT d.need ++ 58 :: (letT don.toNat ++ 44 :: (letT dof.toNat ++ 44 :: letT dfl.toNat)))) := Lib.hid (by unfold deedT; rw [hon, hof, hfl]); rw [hon] at r1 o1 o2; rw [hof] at r2 f1 f2; rw [hfl] at r3 x1 x2; obtain ⟨on, rfl⟩ := Int.eq_ofNat_of_zero_le o1; obtain ⟨of, rfl⟩ := Int.eq_ofNat_of_zero_le f1; obtain ⟨fl, rfl⟩ := Int.eq_ofNat_of_zero_le x1; have on32 : on < 32 := by omega
   have of32 : of < 32 := by omega
   have fl32 : fl < 32 := by omega
   simp only [Int.toNat_natCast] at HDT; obtain ⟨SN, hSN⟩ : ∃ x : ByteArray, (⟨(codeT d.need).toArray⟩ : ByteArray) = x := ⟨_, rfl⟩; obtain ⟨S1, hS1⟩ : ∃ x : ByteArray, (⟨(letT on).toArray⟩ : ByteArray) = x := ⟨_, rfl⟩; obtain ⟨S2, hS2⟩ : ∃ x : ByteArray, (⟨(letT of).toArray⟩ : ByteArray) = x := ⟨_, rfl⟩; obtain ⟨S3, hS3⟩ : ∃ x : ByteArray, (⟨(letT fl).toArray⟩ : ByteArray) = x := ⟨_, rfl⟩
   have y0 : q.size ≤ 3000 := by
    rw [HQ.out, sz_list, List.length_append]
    have := deedsT_len (t.deeds.take k)
    have := HHL.out
    have : (t.deeds.take k).length ≤ k := List.length_take_le _ _
    omega
   have y1 : SN.size ≤ 200 := by rw [← hSN, sz_list]; exact codeT_len _
   have y2 : S1.size ≤ 5 := by rw [← hS1, sz_list]; exact letT_len _
   have y3 : S2.size ≤ 5 := by rw [← hS2, sz_list]; exact letT_len _
   have y4 : S3.size ≤ 5 := by rw [← hS3, sz_list]; exact letT_len _
   have HQ2 : Hid (q ++ ⟨#[59]⟩ ++ SN ++ ⟨#[58]⟩ ++ S1 ++ ⟨#[44]⟩ ++ S2 ++ ⟨#[44]⟩ ++ S3 = ⟨(headT t ++ (t.deeds.take (k + 1)).flatMap deedT).toArray⟩) := Lib.hid (by
    rw [HSN_.out, HDT.out, HQ.out, ← hSN, ← hS1, ← hS2, ← hS3]; rw [ba3S, ba3S, ba3S, ba3S]
    simp)
   have N1 := Lib.hid (show ¬ 9223372036854775807 < q.size + 1 by omega); have N2 := Lib.hid (show ¬ 9223372036854775807 < q.size + 1 + SN.size by omega); have N3 := Lib.hid (show ¬ 9223372036854775807 < q.size + 1 + SN.size + 1 by omega); have N4 := Lib.hid (show ¬ 9223372036854775807 < q.size + 1 + SN.size + 1 + S1.size by omega); have N5 := Lib.hid (show ¬ 9223372036854775807 < q.size + 1 + SN.size + 1 + S1.size + 1 by omega); have N6 := Lib.hid (show ¬ 9223372036854775807 < q.size + 1 + SN.size + 1 + S1.size + 1 + S2.size by omega); have N7 := Lib.hid (show ¬ 9223372036854775807 < q.size + 1 + SN.size + 1 + S1.size + 1 + S2.size + 1 by omega); have N8 := Lib.hid (show ¬ 9223372036854775807 < q.size + 1 + SN.size + 1 + S1.size + 1 + S2.size + 1 + S3.size by omega); have HSN := Bx.mk hSN; have HS1_ := Bx.mk hS1; have HS2_ := Bx.mk hS2; have HS3_ := Bx.mk hS3; have HN := Lib.hid (hneed.up (HS.out.below.trans ((Below.refl _ _).alloc HS.out.below.size (.cells #[.slice An nn cn, .int .i64 (on : Int), .int .i64 (of : Int), .int .i64 (fl : Int)] 144)))); have HNN := Lib.hid hnn; have HSB := Lib.hid (HS.out.alloc #[.slice An nn cn, .int .i64 (on : Int), .int .i64 (of : Int), .int .i64 (fl : Int)] 144); clear p0 p1 p2 p3 hneed hnn hd HS o1 o2 f1 f2 x1 x2 hon hof hfl hSN hS1 hS2 hS3 y0 y1 y2 y3 y4 HQ HSN_ HDT
   go_upto_region 8 with (fail)
   obtain ⟨dg, hdg⟩ : ∃ x, wr.heap.size = x := ⟨_, rfl⟩; obtain ⟨wb, hwb⟩ : ∃ x, wr.alloc (.cells #[.slice An nn cn, .int .i64 (on : Int), .int .i64 (of : Int), .int .i64 (fl : Int)] 144) = x := ⟨_, rfl⟩; rw [hwb] at HSB HN ⊢
   rw [hdg] at HSB ⊢
   have D0 := Lib.hid (HSB.out.cells 1 rfl 0); have D1 := Lib.hid (HSB.out.cells 1 rfl 1); have D2 := Lib.hid (HSB.out.cells 1 rfl 2); have D3 := Lib.hid (HSB.out.cells 1 rfl 3); have HDG : Hid (dg < wb.heap.size) := Lib.hid (HSB.out.new 1 rfl).2; clear hwb hdg c2 r0 r1 r2 r3
   refine wp_reg (σ := Unit) (by kernel_rfl) (by kernel_rfl) (by kernel_rfl)
    (fun _ i => match i with
    | 0 => .string q
    | 1 => .string (q ++ ⟨#[59]⟩)
    | 2 => .pointer (some ⟨dg, 0, none⟩)
    | 3 => .slice An nn cn
    | 4 => .string SN
    | 5 => .string (q ++ ⟨#[59]⟩ ++ SN)
    | 6 => .string (q ++ ⟨#[59]⟩ ++ SN ++ ⟨#[58]⟩)
    | 7 => .pointer (some ⟨dg, 1, none⟩)
    | 8 => .int .i64 (on : Int)
    | 9 => .string S1
    | 10 => .string (q ++ ⟨#[59]⟩ ++ SN ++ ⟨#[58]⟩ ++ S1)
    | 11 => .string (q ++ ⟨#[59]⟩ ++ SN ++ ⟨#[58]⟩ ++ S1 ++ ⟨#[44]⟩)
    | 12 => .pointer (some ⟨dg, 2, none⟩)
    | 13 => .int .i64 (of : Int)
    | 14 => .string S2
    | 15 => .string (q ++ ⟨#[59]⟩ ++ SN ++ ⟨#[58]⟩ ++ S1 ++ ⟨#[44]⟩ ++ S2)
    | 16 => .string (q ++ ⟨#[59]⟩ ++ SN ++ ⟨#[58]⟩ ++ S1 ++ ⟨#[44]⟩ ++ S2 ++ ⟨#[44]⟩)
    | 17 => .pointer (some ⟨dg, 3, none⟩)
    | 18 => .int .i64 (fl : Int)
    | 19 => .string S3
    | 20 => .string (q ++ ⟨#[59]⟩ ++ SN ++ ⟨#[58]⟩ ++ S1 ++ ⟨#[44]⟩ ++ S2 ++ ⟨#[44]⟩ ++ S3)
    | 21 => .string (q ++ ⟨#[59]⟩ ++ SN ++ ⟨#[58]⟩ ++ S1 ++ ⟨#[44]⟩ ++ S2 ++ ⟨#[44]⟩ ++ S3)
    | _ => undef)
    (fun D _ wx => Below wb.heap.size wb wx) () (fun D hD => (Below.refl _ _).drew) ?_ ?_
   ·refine Cs (fun D _ wx hR hDi hd hsh a' hs K hK => ?_) ?_
    ·have m21 : D 21 = false := hsh.no hDi 21 rfl ⟨0, .phase⟩ (by simp) rfl rfl; have e3 := hs.before 21 3 (u := .string q) rfl m21 (by kernel_rfl) rfl; clear hs; go_simp; exact hK () wx sv hR
    refine Cs (fun D _ wx hR hDi hd hsh a' hs K hK => ?_) ?_
    ·have e29 := hs.v 0 29 hd; clear hs; have q1 := N1.out; go_simp; exact hK () wx sv hR
    refine Cs (fun D _ wx hR hDi hd hsh a' hs K hK => ?_) ?_
    ·have e5 := hs.o 5 (.pointer (some ⟨dg, 0, none⟩)); clear hs; go_simp; exact hK () wx sv hR
    refine Cs (fun D _ wx hR hDi hd hsh a' hs K hK => ?_) ?_
    ·have e31 := hs.v 2 31 hd; clear hs; have c0 : wx.cell? ⟨dg, 0, none⟩ = some (.slice An nn cn) := (bcells hR _ _ HDG.out).trans D0.out; go_simp; exact hK () wx sv hR
    refine Cs (fun D _ wx hR hDi hd hsh a' hs K hK => ?_) ?_
    ·have e32 := hs.v 3 32 hd; have g32 := getQ e32; clear hs; go_simp; refine (codeText_spec An nn cn d.need wx (HN.out.up hR) (by have := HNN.out; omega)).mono ?_; rw [HSN.out]; rintro e2 w2 ⟨rfl, hb2⟩; exact hK () w2 sv (hR.trans (hb2.mono hR.size))
    refine Cs (fun D _ wx hR hDi hd hsh a' hs K hK => ?_) ?_
    ·have e30 := hs.v 1 30 hd; have e33 := hs.v 4 33 hd; clear hs; have q1 := N2.out; go_simp; exact hK () wx sv hR
    refine Cs (fun D _ wx hR hDi hd hsh a' hs K hK => ?_) ?_
    ·have e34 := hs.v 5 34 hd; clear hs; have q1 := N3.out; go_simp; exact hK () wx sv hR
    refine Cs (fun D _ wx hR hDi hd hsh a' hs K hK => ?_) ?_
    ·have e5 := hs.o 5 (.pointer (some ⟨dg, 0, none⟩)); clear hs; go_simp; exact hK () wx sv hR
    refine Cs (fun D _ wx hR hDi hd hsh a' hs K hK => ?_) ?_
    ·have e36 := hs.v 7 36 hd; clear hs; have c0 : wx.cell? ⟨dg, 1, none⟩ = some (.int .i64 (on : Int)) := (bcells hR _ _ HDG.out).trans D1.out; go_simp; exact hK () wx sv hR
    refine Cs (fun D _ wx hR hDi hd hsh a' hs K hK => ?_) ?_
    ·have e37 := hs.v 8 37 hd; have g37 := getQ e37; clear hs; go_simp; refine (l6Letters_any on on32 wx).mono ?_; rw [HS1_.out]; rintro e2 w2 ⟨rfl, hb2⟩; exact hK () w2 sv (hR.trans (hb2.mono hR.size))
    refine Cs (fun D _ wx hR hDi hd hsh a' hs K hK => ?_) ?_
    ·have e35 := hs.v 6 35 hd; have e38 := hs.v 9 38 hd; clear hs; have q1 := N4.out; go_simp; exact hK () wx sv hR
    refine Cs (fun D _ wx hR hDi hd hsh a' hs K hK => ?_) ?_
    ·have e39 := hs.v 10 39 hd; clear hs; have q1 := N5.out; go_simp; exact hK () wx sv hR
    refine Cs (fun D _ wx hR hDi hd hsh a' hs K hK => ?_) ?_
    ·have e5 := hs.o 5 (.pointer (some ⟨dg, 0, none⟩)); clear hs; go_simp; exact hK () wx sv hR
    refine Cs (fun D _ wx hR hDi hd hsh a' hs K hK => ?_) ?_
    ·have e41 := hs.v 12 41 hd; clear hs; have c0 : wx.cell? ⟨dg, 2, none⟩ = some (.int .i64 (of : Int)) := (bcells hR _ _ HDG.out).trans D2.out; go_simp; exact hK () wx sv hR
    refine Cs (fun D _ wx hR hDi hd hsh a' hs K hK => ?_) ?_
    ·have e42 := hs.v 13 42 hd; have g42 := getQ e42; clear hs; go_simp; refine (l6Letters_any of of32 wx).mono ?_; rw [HS2_.out]; rintro e2 w2 ⟨rfl, hb2⟩; exact hK () w2 sv (hR.trans (hb2.mono hR.size))
    refine Cs (fun D _ wx hR hDi hd hsh a' hs K hK => ?_) ?_
    ·have e40 := hs.v 11 40 hd; have e43 := hs.v 14 43 hd; clear hs; have q1 := N6.out; go_simp; exact hK () wx sv hR
    refine Cs (fun D _ wx hR hDi hd hsh a' hs K hK => ?_) ?_
    ·have e44 := hs.v 15 44 hd; clear hs; have q1 := N7.out; go_simp; exact hK () wx sv hR
    refine Cs (fun D _ wx hR hDi hd hsh a' hs K hK => ?_) ?_
    ·have e5 := hs.o 5 (.pointer (some ⟨dg, 0, none⟩)); clear hs; go_simp; exact hK () wx sv hR
    refine Cs (fun D _ wx hR hDi hd hsh a' hs K hK => ?_) ?_
    ·have e46 := hs.v 17 46 hd; clear hs; have c0 : wx.cell? ⟨dg, 3, none⟩ = some (.int .i64 (fl : Int)) := (bcells hR _ _ HDG.out).trans D3.out; go_simp; exact hK () wx sv hR
    refine Cs (fun D _ wx hR hDi hd hsh a' hs K hK => ?_) ?_
    ·have e47 := hs.v 18 47 hd; have g47 := getQ e47; clear hs; go_simp; refine (l6Letters_any fl fl32 wx).mono ?_; rw [HS3_.out]; rintro e2 w2 ⟨rfl, hb2⟩; exact hK () w2 sv (hR.trans (hb2.mono hR.size))
    refine Cs (fun D _ wx hR hDi hd hsh a' hs K hK => ?_) ?_
    ·have e45 := hs.v 16 45 hd; have e48 := hs.v 19 48 hd; clear hs; have q1 := N8.out; go_simp; exact hK () wx sv hR
    refine Cs (fun D _ wx hR hDi hd hsh a' hs K hK => ?_) ?_
    ·have e49 := hs.v 20 49 hd; clear hs; go_simp; exact hK () wx sv hR
    exact StepAll.nil
   intro D _ wx hR hD; simp only [putA, Act.put, List.setIfInBounds_toArray, List.set_cons_zero, List.set_cons_succ]; have HSX := Lib.hid (HSB.out.quiet hR); clear hR hD HSB D0 D1 D2 D3 HDG; go_wp2
   go_roundw
   case rel => exact ⟨k + 1, _, by omega, by go_num, rfl, HQ2, HSX.out.pick [0] (by decide) rfl rfl⟩
   case measure => simp [intOf]; omega
  ·have hke : k = n' := by omega
   have HE : Hid (q = ⟨(taskT t).toArray⟩) := Lib.hid (by rw [HQ.out, HSP.out, hke, ← HDL.out, List.take_length]); clear hke HQ; go_wp2; go_ret; exact ⟨ret_ba HE.out, HS.out.below⟩
end Go.Proofs.YtkmcengmglgdeaaGreatDoor


namespace Go.Proofs.YtkmcengmglgdeaaGreatDoor
set_option linter.unusedVariables false
set_option linter.unusedSimpArgs false
open Go.ChangeShapes Go.WideShapes Go.ChangeAt Go.RowKit

theorem proofRight_three (t : TaskD) (s : List UInt8) : proofRight t s = -1 ∨ proofRight t s = 0 ∨ proofRight t s = 1 := by
 unfold proofRight
 repeat' split
 all_goals simp
def wordB (b : Bool) (s : ByteArray) : ByteArray := if b then s else ⟨#[110, 111]⟩
theorem l10Word_any (b : Bool) (s : ByteArray) (w : World) :
  Calls Tryz.prog 57 #[.bool b, .string s] w fun e w' => e = .returned (.string (wordB b s)) ∧ w = w' := by
 cases b
 all_goals
  go_enter Tryz.func57, Tryz.ntmps57; go_wp2; go_ret; exact ⟨rfl, rfl⟩
theorem St.rowI {w W : World} {L : List HRes} (h : St w W L) (i : Nat) {g n c : Nat} {xs : List Int} (hi : L[i]? = some (rInts (.slice (some ⟨g, 0, none⟩) n c) xs)) (hn : xs.length = n) (k : Nat) (x : Int) (hx : xs[k]? = some x) : W.cell? ⟨g, k, none⟩ = some (.int .i64 x) := by
 obtain ⟨F, h1, -⟩ := h.get i hi; have hr : W.ownsRow 0 3 1 (.slice (some ⟨g, 0, none⟩) n c) n (Go.Proofs.YtkmcengmglgdeaaGreatDoor.ints xs) := hn ▸ h1.row; have hk := (List.getElem?_eq_some_iff.1 hx).1; rw [hr.cellAt k (by omega)]
 simp [Go.Proofs.YtkmcengmglgdeaaGreatDoor.ints, hx]
theorem St.ownI' {w W : World} {L : List HRes} (h : St w W L) (i : Nat) {v : Value} {n : Nat} {xs : List Int} (hi : L[i]? = some (rInts v xs)) (hn : xs.length = n) : W.ownsRow 0 3 1 v n (Go.Proofs.YtkmcengmglgdeaaGreatDoor.ints xs) := by
 obtain ⟨F, h1, -⟩ := h.get i hi; exact hn ▸ h1.row
set_option maxRecDepth 100000 in
set_option maxHeartbeats 2000000 in
theorem lineS_bad (v : Value) (b : BookD) (s : ByteArray) (w : World) (h : RdB w w.heap.size v b) (hok : bookOk b = false) :
  Calls Tryz.prog 10 #[v, .string s] w (SayR b s.data.toList w) := by
 unfold SayR
 rw [sayB_bad hok]; obtain ⟨G, gn, gc, G', n', c', D', dn, dc, hv⟩ := h.form; subst hv; obtain ⟨os, hos⟩ : ∃ x, b.order.start = x := ⟨_, rfl⟩; obtain ⟨st, hst⟩ : ∃ x, b.state = x := ⟨_, rfl⟩; rw [hos, hst] at h ⊢
 have HS0 : Hid (St w ((w.alloc (.cells #[.int .i64 os, .slice G gn gc, .slice G' n' c', .slice D' dn dc, .int .i64 st] 28)).alloc (.cells #[.int .i64 0, .slice none 0 0, .slice none 0 0, .slice none 0 0, .int .i64 0] 28)) [rBlk w.heap.size 28 #[.int .i64 os, .slice G gn gc, .slice G' n' c', .slice D' dn dc, .int .i64 st], rBlk (w.heap.size + 1) 28 #[.int .i64 0, .slice none 0 0, .slice none 0 0, .slice none 0 0, .int .i64 0]]) := Lib.hid (by
  have := ((St.refl w).alloc #[.int .i64 os, .slice G gn gc, .slice G' n' c', .slice D' dn dc, .int .i64 st] 28).alloc #[.int .i64 0, .slice none 0 0, .slice none 0 0, .slice none 0 0, .int .i64 0] 28
  simpa using this)
 have HB := Lib.hid h; have HOK := Bx.mk hok; have HOS := Bx.mk hos; have HSTT := Bx.mk hst; clear h hok hos hst; go_enter Tryz.func10, Tryz.ntmps10
 go_wp2_with fail
 refine (bookValid_spec _ b _ (HB.out.up HS0.out.below)).mono ?_; rw [HOK.out]; rintro e w1 ⟨rfl, hb1⟩; have HS1 := Lib.hid (HS0.out.quiet hb1); clear hb1 HS0; have q1 := HS1.out.cells 1 rfl; have f1 := HS1.out.free 1 rfl; go_wp2; refine bodyPost_ret (v := .tuple #[.agg #[.int .i64 0, .slice none 0 0, .slice none 0 0, .slice none 0 0, .int .i64 0], .string ⟨#[]⟩]) (by simp [results, Tryz.results10, go_sem, q1]) rfl ⟨.agg #[.int .i64 0, .slice none 0 0, .slice none 0 0, .slice none 0 0, .int .i64 0], rfl, ?_⟩; exact St.book0 (HS1.out.set5 1 rfl _ _ _ _ _).below
theorem bookLine_spec (v : Value) (b : BookD) (s : ByteArray) (w : World) (h : RdB w w.heap.size v b) (hs : s.size ≤ 1099511627776) :
  Calls Tryz.prog 10 #[v, .string s] w (SayR b s.data.toList w) := by
 cases hok : bookOk b with
 | false => exact lineS_bad v b s w h hok
 | true => exact lineS_valid v b s w h hok hs
end Go.Proofs.YtkmcengmglgdeaaGreatDoor


namespace Go.Proofs.YtkmcengmglgdeaaGreatDoor
set_option linter.unusedVariables false
set_option linter.unusedSimpArgs false
open Go.ChangeShapes Go.WideShapes Go.ChangeAt Go.RowKit
theorem mkB_say (b : BookD) (l : List UInt8) : mkB (sayB b l).1 ≤ mkB b + 40 := by
 cases hb : bookOk b with
 | true =>
  obtain ⟨h1, h2, -⟩ := sayB_ok l hb
  have := (bookOk_parts h1).2.1
  unfold mkB
  rw [h2]
  omega
 | false =>
  rw [sayB_bad hb]; exact Nat.zero_le _
theorem say_spec (v : Value) (b x : BookD) (s ans : ByteArray) (w : World) (h : RdB w w.heap.size v b) (hs : s.size ≤ 1048576) (hx : (sayB b s.data.toList).1 = x) (ha : (⟨(sayB b s.data.toList).2.toArray⟩ : ByteArray) = ans) :
  Calls Tryz.prog 10 #[v, .string s] w (Gives w (fun v => .tuple #[v, .string ans]) fun v => [rBook v x]) := by
 subst hx ha; exact bookLine_spec v b s w h (by omega)
theorem say_impl (v : Value) (b x : BookD) (s ans : ByteArray) (w : World) (h : RdB w w.heap.size v b) (he : ErrH w) (hp : PowTab w) (hs : s.size ≤ 1048576) (hx : (sayB b s.data.toList).1 = x) (ha : (⟨(sayB b s.data.toList).2.toArray⟩ : ByteArray) = ans) :
  Calls Tryz.prog 9 #[v, .string s] w (Gives w (fun v => .tuple #[v, .string ans]) fun v => [rBook v x]) := by
 subst hx ha; exact bookLine_impl v b s w h he hp (by omega)

set_option maxRecDepth 100000 in
set_option maxHeartbeats 4000000 in
theorem FnExactBookLine_walk (v0 : Value) (x0 : BookD) (a1 : ByteArray) (w : World) (h0 : RdBM maxLen w w.heap.size v0 x0) (h1 : a1.size ≤ 9223372036854775807) (he : ErrH w) (hp : PowTab w) :
  Calls Tryz.prog 7 #[v0, .string a1] w fun e w' => e = .returned (.bool true) ∧ Below w.heap.size w w' := by
 obtain ⟨Ax0, nx0, cx0, Bx0, mx0, dx0, Cx0, lx0, fx0, hv0⟩ := h0.form; subst hv0; have S1a : St w (w.alloc (Obj.cells #[.int .i64 (x0).order.start, .slice Ax0 nx0 cx0, .slice Bx0 mx0 dx0, .slice Cx0 lx0 fx0, .int .i64 (x0).state] 42)) [rBlk w.heap.size 42 #[.int .i64 (x0).order.start, .slice Ax0 nx0 cx0, .slice Bx0 mx0 dx0, .slice Cx0 lx0 fx0, .int .i64 (x0).state]] := ((St.refl w).alloc #[.int .i64 (x0).order.start, .slice Ax0 nx0 cx0, .slice Bx0 mx0 dx0, .slice Cx0 lx0 fx0, .int .i64 (x0).state] 42); have q2 := S1a.cells 0 rfl
 by_cases hb1 : a1.size ≤ 1048576
 case neg =>
  have hb1i : (1048576 : Int) < (a1.size : Int) := by omega
  go_enter Tryz.func7, Tryz.ntmps7; go_wp2; go_ret; exact ⟨rfl, S1a.below⟩
 have hb1i : ¬ (1048576 : Int) < (a1.size : Int) := by omega
 obtain ⟨xb, hxb⟩ : ∃ y, (sayB x0 a1.data.toList).1 = y := ⟨_, rfl⟩; obtain ⟨ans, hans⟩ : ∃ y, (⟨(sayB x0 a1.data.toList).2.toArray⟩ : ByteArray) = y := ⟨_, rfl⟩; have HXB := Bx.mk hxb; have HANS := Bx.mk hans; have HB1 := Bx.mk hb1; have HE := Lib.hid he; have HP := Lib.hid hp; have hmk9 : mkB xb ≤ mkB x0 + 40 := by rw [← hxb]; exact mkB_say x0 _
 clear he hp hxb hans hb1 h1
 by_cases hz0 : ((szB x0 : Nat) : Int) ≤ 1048576 - 0
 case neg =>
  go_enter Tryz.func7, Tryz.ntmps7
  go_wp2_with fail
  refine (szBook_any (M := maxLen) (by unfold maxLen; omega) _ x0 _ _ (h0.up S1a.below) (by omega) (by omega)).mono ?_; rw [less_no (by omega)]; rintro e w' ⟨rfl, hb⟩; go_wp2; go_ret; exact ⟨rfl, (S1a.quiet hb).below⟩
 have hr0 := h0.less (M' := 1048576) (by omega); have HR0 := Lib.hid hr0; clear hr0; have hmk0 : mkB x0 ≤ 4194304 := by have := mkB_le x0; omega
 have hM0 : mkB xb ≤ 8388608 := by omega
 go_enter Tryz.func7, Tryz.ntmps7
 go_wp2_with fail
 refine (szBook_any (M := maxLen) (by unfold maxLen; omega) _ x0 _ _ (h0.up S1a.below) (by omega) (by omega)).mono ?_; rw [less_yes (by omega)]; rintro e w103 ⟨rfl, hb3⟩; have S3 := S1a.quiet hb3; clear q2; have q4 := S3.cells 0 rfl; clear q4; have q5 := S3.cells 0 rfl
 go_wp2_with fail
 refine (toBook_st _ x0 _ (HR0.out.up S3.below)).mono ?_; rintro e w106 ⟨v6, rfl, s6⟩; obtain ⟨A6, n6, c6, B6, m6, d6, C6, l6, f6, hv⟩ := s6.formB 0 rfl; subst hv; have S6 := S3.call s6
 go_wp2_with fail
 refine (say_spec _ x0 xb a1 ans _ (S6.rdB 1 rfl) HB1.out HXB.out HANS.out).mono ?_; rintro e w107 ⟨v7, rfl, s7⟩; obtain ⟨A7, n7, c7, B7, m7, d7, C7, l7, f7, hv⟩ := s7.formB 0 rfl; subst hv; have S7 := S6.call s7; have S8a := (S7.alloc #[.int .i64 ((xb)).order.start, .slice A7 n7 c7, .slice B7 m7 d7, .slice C7 l7 f7, .int .i64 ((xb)).state] 28); clear q5; have q9 := S8a.cells 0 rfl; have q10 := S8a.cells 3 rfl
 go_wp2_with fail
 refine (toBook_st _ x0 _ (HR0.out.up S8a.below)).mono ?_; rintro e w111 ⟨v11, rfl, s11⟩; obtain ⟨A11, n11, c11, B11, m11, d11, C11, l11, f11, hv⟩ := s11.formB 0 rfl; subst hv; have S11 := S8a.call s11; have S12a := (S11.alloc #[.int .i64 (x0).order.start, .slice A11 n11 c11, .slice B11 m11 d11, .slice C11 l11 f11, .int .i64 (x0).state] 28); clear q9 q10; have q13 := S12a.cells 0 rfl; have q14 := S12a.cells 3 rfl; have q15 := S12a.cells 5 rfl
 go_wp2_with fail
 refine (say_impl _ x0 xb a1 ans _ (S12a.rdB 4 rfl) (HE.out.up S12a.below) (HP.out.up S12a.below) HB1.out HXB.out HANS.out).mono ?_; rintro e w116 ⟨v16, rfl, s16⟩; obtain ⟨A16, n16, c16, B16, m16, d16, C16, l16, f16, hv⟩ := s16.formB 0 rfl; subst hv; have S16 := S12a.call s16; have S17a := (S16.alloc #[.int .i64 ((xb)).order.start, .slice A16 n16 c16, .slice B16 m16 d16, .slice C16 l16 f16, .int .i64 ((xb)).state] 28); clear q13 q14 q15; have q18 := S17a.cells 0 rfl; have q19 := S17a.cells 3 rfl; have q20 := S17a.cells 5 rfl; have q21 := S17a.cells 7 rfl
 go_wp2_with fail
 refine (eqBook_same _ (xb) _ _ (S17a.rdB 6 rfl) (S17a.rdB 2 rfl)).mono ?_; rintro e w122 ⟨rfl, hb22⟩; have S22 := S17a.quiet hb22; clear q18 q19 q20 q21; have q23 := S22.cells 0 rfl; have q24 := S22.cells 3 rfl; have q25 := S22.cells 5 rfl; have q26 := S22.cells 7 rfl
 go_upto_region 12 with (fail)
 refine wp_reg (σ := Value) (by kernel_rfl) (by kernel_rfl) (by kernel_rfl)
  (fun s i => match i with
   | 0 => .agg #[.int .i64 (x0).order.start, .slice A11 n11 c11, .slice B11 m11 d11, .slice C11 l11 f11, .int .i64 (x0).state]
   | 1 => .agg #[.int .i64 (x0).order.start, .slice Ax0 nx0 cx0, .slice Bx0 mx0 dx0, .slice Cx0 lx0 fx0, .int .i64 (x0).state]
   | 2 => s
   | 3 => .bool true
   | 4 => .bool false
   | _ => undef)
  (fun D s wx27 => Sn w wx27 fun i => match i with
   | 0 => some (rBlk w.heap.size 42 #[.int .i64 (x0).order.start, .slice Ax0 nx0 cx0, .slice Bx0 mx0 dx0, .slice Cx0 lx0 fx0, .int .i64 (x0).state])
   | 1 => some (rBook (.agg #[.int .i64 (x0).order.start, .slice A6 n6 c6, .slice B6 m6 d6, .slice C6 l6 f6, .int .i64 (x0).state]) x0)
   | 2 => some (rBook (.agg #[.int .i64 ((xb)).order.start, .slice A7 n7 c7, .slice B7 m7 d7, .slice C7 l7 f7, .int .i64 ((xb)).state]) (xb))
   | 3 => some (rBlk w107.heap.size 28 #[.int .i64 ((xb)).order.start, .slice A7 n7 c7, .slice B7 m7 d7, .slice C7 l7 f7, .int .i64 ((xb)).state])
   | 4 => some (rBook (.agg #[.int .i64 (x0).order.start, .slice A11 n11 c11, .slice B11 m11 d11, .slice C11 l11 f11, .int .i64 (x0).state]) x0)
   | 5 => some (rBlk w111.heap.size 28 #[.int .i64 (x0).order.start, .slice A11 n11 c11, .slice B11 m11 d11, .slice C11 l11 f11, .int .i64 (x0).state])
   | 6 => some (rBook (.agg #[.int .i64 ((xb)).order.start, .slice A16 n16 c16, .slice B16 m16 d16, .slice C16 l16 f16, .int .i64 ((xb)).state]) (xb))
   | 7 => some (rBlk w116.heap.size 28 #[.int .i64 ((xb)).order.start, .slice A16 n16 c16, .slice B16 m16 d16, .slice C16 l16 f16, .int .i64 ((xb)).state])
   | 8 => if D 2 = true then some (rBook s x0) else none
   | _ => none)
  undef ?_ ?_ ?_
 ·intro D hD; refine ((Sn.of_st S22).quiet ((Below.refl _ _).drew)).congr fun i => ?_
  match i with
  | 0 | 1 | 2 | 3 | 4 | 5 | 6 | 7 => rfl
  | 8 => exact if_neg (by rw [hD 2 (by decide)]; simp)
  | q + 9 => rfl
 ·refine Cs (fun D s wx27 hR hDi hd hsh a' hs K hK => ?_) ?_
  ·have e8 := hs.o 8 (.pointer (some ⟨w111.heap.size, 0, none⟩)); clear hs; have qk := (hR.blk 5 rfl).cell; go_simp; exact hK s wx27 sv hR
  refine Cs (fun D s wx27 hR hDi hd hsh a' hs K hK => ?_) ?_
  ·have e2 := hs.o 2 (.pointer (some ⟨w.heap.size, 0, none⟩)); clear hs; have qk := (hR.blk 0 rfl).cell; go_simp; exact hK s wx27 sv hR
  refine Cs (fun D s wx27 hR (hDi : D 2 = false) hd hsh a' hs K hK => ?_) ?_
  ·have e49 := hs.v 1 49 hd; have g49 := getQ e49; clear hs; have n3 : D 3 = false := hsh.no hDi 3 rfl ⟨2, .data⟩ (by simp) rfl rfl; have n4 : D 4 = false := hsh.no n3 4 rfl ⟨3, .data⟩ (by simp) rfl rfl; go_simp; refine (toBook_st _ x0 _ (HR0.out.up hR.below)).mono ?_; rintro e w2 ⟨v2, rfl, s2⟩
   refine hK v2 w2
    (fun j hj => by
     match j, hj with
     | 0, hj | 1, hj => rfl
     | 2, hj => rw [hDi] at hj; cases hj
     | 3, hj | 4, hj => rfl
     | _ + 5, hj => rfl)
    ((hR.add 8 (if_neg (by rw [hDi]; simp)) s2).congr
     (fun i => by
      match i with
      | 0 | 1 | 2 | 3 | 4 | 5 | 6 | 7 | 8 => rfl
      | q + 9 => exact (if_neg (show ¬ (q + 9 = 8) by omega)).symm))
  refine Cs (fun D s wx27 hR hDi hd hsh a' hs K hK => ?_) ?_
  ·have e48 := hs.v 0 48 hd; have e50 := hs.v 2 50 hd; have g48 := getQ e48; have g50 := getQ e50; clear hs; have d2 : D 2 = true := hd ⟨2, .data⟩ (by simp) rfl; go_simp; refine (eqBook_same _ x0 _ _ (hR.rdB 4 rfl) (hR.rdB 8 (if_pos d2))).mono ?_; rintro e w2 ⟨rfl, hb2⟩; exact hK s w2 sv (hR.quiet hb2)
  refine Cs (fun D s wx27 hR hDi hd hsh a' hs K hK => ?_) ?_
  ·have e51 := hs.v 3 51 hd; clear hs; go_simp; exact hK s wx27 sv hR
  exact StepAll.nil
 ·intro D s wx27 hR hD; simp only [putA, Act.put, List.setIfInBounds_toArray, List.set_cons_zero, List.set_cons_succ]; have S28 : St w wx27 [rBlk w.heap.size 42 #[.int .i64 (x0).order.start, .slice Ax0 nx0 cx0, .slice Bx0 mx0 dx0, .slice Cx0 lx0 fx0, .int .i64 (x0).state], rBook (.agg #[.int .i64 (x0).order.start, .slice A6 n6 c6, .slice B6 m6 d6, .slice C6 l6 f6, .int .i64 (x0).state]) x0, rBook (.agg #[.int .i64 ((xb)).order.start, .slice A7 n7 c7, .slice B7 m7 d7, .slice C7 l7 f7, .int .i64 ((xb)).state]) (xb), rBlk w107.heap.size 28 #[.int .i64 ((xb)).order.start, .slice A7 n7 c7, .slice B7 m7 d7, .slice C7 l7 f7, .int .i64 ((xb)).state], rBook (.agg #[.int .i64 (x0).order.start, .slice A11 n11 c11, .slice B11 m11 d11, .slice C11 l11 f11, .int .i64 (x0).state]) x0, rBlk w111.heap.size 28 #[.int .i64 (x0).order.start, .slice A11 n11 c11, .slice B11 m11 d11, .slice C11 l11 f11, .int .i64 (x0).state], rBook (.agg #[.int .i64 ((xb)).order.start, .slice A16 n16 c16, .slice B16 m16 d16, .slice C16 l16 f16, .int .i64 ((xb)).state]) (xb), rBlk w116.heap.size 28 #[.int .i64 ((xb)).order.start, .slice A16 n16 c16, .slice B16 m16 d16, .slice C16 l16 f16, .int .i64 ((xb)).state]] := hR.to_st [0, 1, 2, 3, 4, 5, 6, 7] (by decide) rfl; clear hR hD; clear q23 q24 q25 q26; have q29 := S28.cells 0 rfl; have q30 := S28.cells 3 rfl; have q31 := S28.cells 5 rfl; have q32 := S28.cells 7 rfl
  go_wp2_with fail
  refine (markBook_st S28 4 rfl (1) (by omega)).mono ?_; rintro e w133 ⟨rfl, s33⟩; have S33 := s33; clear q29 q30 q31 q32; have q34 := S33.cells 0 rfl; have q35 := S33.cells 3 rfl; have q36 := S33.cells 5 rfl; have q37 := S33.cells 7 rfl
  go_wp2_with fail
  refine (eqBook_same _ (xb) _ _ (S33.rdB 6 rfl) (S33.rdB 2 rfl)).mono ?_; rintro e w138 ⟨rfl, hb38⟩; have S38 := S33.quiet hb38; clear q34 q35 q36 q37; have q39 := S38.cells 0 rfl; have q40 := S38.cells 3 rfl; have q41 := S38.cells 5 rfl; have q42 := S38.cells 7 rfl
  go_wp2_with fail
  refine (markBook_st S38 6 rfl (1) (by omega)).mono ?_; rintro e w143 ⟨rfl, s43⟩; have S43 := s43; clear q39 q40 q41 q42; have q44 := S43.cells 0 rfl; have q45 := S43.cells 3 rfl; have q46 := S43.cells 5 rfl; have q47 := S43.cells 7 rfl
  go_wp2_with fail
  refine (heldBook_any _ (1) (xb) _ (S43.rdB 6 rfl) (by omega)).mono ?_; rintro e w148 ⟨rfl, hb48⟩; have S48 := S43.quiet hb48; clear q44 q45 q46 q47; have q49 := S48.cells 0 rfl; have q50 := S48.cells 3 rfl; have q51 := S48.cells 5 rfl; have q52 := S48.cells 7 rfl; clear q49 q50 q51 q52; have q53 := S48.cells 0 rfl; have q54 := S48.cells 3 rfl; have q55 := S48.cells 5 rfl; have q56 := S48.cells 7 rfl
  go_wp2_with fail
  refine (toBook_st _ x0 _ (HR0.out.up S48.below)).mono ?_; rintro e w157 ⟨v57, rfl, s57⟩; obtain ⟨A57, n57, c57, B57, m57, d57, C57, l57, f57, hv⟩ := s57.formB 0 rfl; subst hv; have S57 := S48.call s57
  go_wp2_with fail
  refine (say_impl _ x0 xb a1 ans _ (S57.rdB 8 rfl) (HE.out.up S57.below) (HP.out.up S57.below) HB1.out HXB.out HANS.out).mono ?_; rintro e w158 ⟨v58, rfl, s58⟩; obtain ⟨A58, n58, c58, B58, m58, d58, C58, l58, f58, hv⟩ := s58.formB 0 rfl; subst hv; have S58 := S57.call s58; have S59a := (S58.alloc #[.int .i64 ((xb)).order.start, .slice A58 n58 c58, .slice B58 m58 d58, .slice C58 l58 f58, .int .i64 ((xb)).state] 28); clear q53 q54 q55 q56; have q60 := S59a.cells 0 rfl; have q61 := S59a.cells 3 rfl; have q62 := S59a.cells 5 rfl; have q63 := S59a.cells 7 rfl; have q64 := S59a.cells 10 rfl
  go_wp2_with fail
  refine (eqBook_same _ (xb) _ _ (S59a.rdB 9 rfl) (S59a.rdB 2 rfl)).mono ?_; rintro e w165 ⟨rfl, hb65⟩; have S65 := S59a.quiet hb65; clear q60 q61 q62 q63 q64; have q66 := S65.cells 0 rfl; have q67 := S65.cells 3 rfl; have q68 := S65.cells 5 rfl; have q69 := S65.cells 7 rfl; have q70 := S65.cells 10 rfl
  go_wp2_with fail
  refine (heldBook_any _ (1) (xb) _ (S65.rdB 6 rfl) (by omega)).mono ?_; rintro e w171 ⟨rfl, hb71⟩; have S71 := S65.quiet hb71; clear q66 q67 q68 q69 q70; have q72 := S71.cells 0 rfl; have q73 := S71.cells 3 rfl; have q74 := S71.cells 5 rfl; have q75 := S71.cells 7 rfl; have q76 := S71.cells 10 rfl; go_wp2; go_ret; exact ⟨rfl, S71.below⟩
end Go.Proofs.YtkmcengmglgdeaaGreatDoor


namespace Go.Proofs.YtkmcengmglgdeaaGreatDoor
set_option linter.unusedVariables false
set_option linter.unusedSimpArgs false
open Go.ChangeShapes Go.WideShapes Go.RowKit
theorem powTab_of {l : List (String × DataW Unit)} {W : World} (h : laidMetH Tryz.prog l W) (hf : (l.filter fun x => x.1 == "internal/strconv.uint64pow10") = [("internal/strconv.uint64pow10", Rows.laid_internal_strconv_uint64pow10)]) : PowTab W := by
 have h1 := h.filter fun x => x.1 == "internal/strconv.uint64pow10"
 rw [hf] at h1; have h2 : laidMet Tryz.prog [("internal/strconv.uint64pow10", Lib.tabData .u64 Lib.pow10Tab)] W := h1; exact Lib.tabIs_of_head (g := 2) (t := 226) (e := 196) (n := 20) (by kernel_rfl) (by kernel_rfl) Tryz.underlying226 Tryz.underlying196 (by kernel_rfl) (by kernel_rfl) h2
end Go.Proofs.YtkmcengmglgdeaaGreatDoor
