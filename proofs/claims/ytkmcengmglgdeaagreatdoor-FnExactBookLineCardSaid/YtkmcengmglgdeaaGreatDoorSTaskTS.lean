/- Joined texts: TaskTS, Shelf. -/
import Derived.Test.YtkmcengmglgdeaaGreatDoorSCondS
import Derived.Shelf.LaysM
import Derived.Shelf.Strconv.Itoa3
import Derived.Shelf.Strings.Search1
import Derived.Shelf.Strings.Search2
import Derived.Shelf.Strings.Count
import Derived.Shelf.Strings.Split
import Derived.Test.YtkmcengmglgdeaaGreatDoorProg

namespace Go.Proofs.YtkmcengmglgdeaaGreatDoor
set_option linter.unusedVariables false
set_option linter.unusedSimpArgs false
set_option maxRecDepth 100000
set_option maxHeartbeats 8000000
open Go.ChangeShapes Go.WideShapes Go.ChangeAt Go.RowKit
theorem taskText_spec (v : Value) (t : TaskD) (w : World) (h : RdT w w.heap.size v t) (hok : taskOk t = true) :
  Calls Tryz.prog 60 #[v] w fun e w' => e = .returned (.string ⟨(taskT t).toArray⟩) ∧ Below w.heap.size w w' := by
 have h' := h; obtain ⟨G, gn, gc, G', n', c', rfl, hg, hgs, hds, hst⟩ := h; have HV := Lib.hid h'; have HGL := Lib.hid hg; have HGN := Lib.hid hgs; have HDS := Lib.hid hds; have HOK := Lib.hid hok; obtain ⟨hs01, -, hn6, hdok⟩ := taskOk_parts t hok; obtain ⟨st, hst'⟩ : ∃ x, t.start = x := ⟨_, rfl⟩; obtain ⟨s0, rfl⟩ := Int.eq_ofNat_of_zero_le (show 0 ≤ st by omega); have hs32 : s0 < 32 := by omega
 have HDOK := Lib.hid hdok; have hn6' : n' ≤ 6 := by rw [← hds.len]; exact hn6
 have HDL := Lib.hid hds.len; have HST : Hid (t.start.toNat = s0) := Lib.hid (by rw [hst']; simp); rw [hst'] at HV ⊢
 have HSP := Lib.hid (taskT_split t); have HHL := Lib.hid (headT_len t); obtain ⟨SA, hSA⟩ : ∃ x : ByteArray, (⟨(letT s0).toArray⟩ : ByteArray) = x := ⟨_, rfl⟩; obtain ⟨SC, hSC⟩ : ∃ x : ByteArray, (⟨(codeT t.goal).toArray⟩ : ByteArray) = x := ⟨_, rfl⟩; have z1 : SA.size ≤ 5 := by rw [← hSA, sz_list]; exact letT_len s0
 have z2 : SC.size ≤ 200 := by rw [← hSC, sz_list]; exact codeT_len _
 have HN1 := Lib.hid (show ¬ 9223372036854775807 < SA.size + 1 by omega); have HN2 := Lib.hid (show ¬ 9223372036854775807 < SA.size + 1 + SC.size by omega); have HSA := Bx.mk hSA; have HSC := Bx.mk hSC
 have HQ0 : Hid (SA ++ ⟨#[62]⟩ ++ SC = ⟨(headT t ++ (t.deeds.take 0).flatMap deedT).toArray⟩) := Lib.hid (by
  rw [List.take_zero, List.flatMap_nil, List.append_nil]
  unfold headT
  rw [HST.out, ← hSA, ← hSC]
  exact ba3S _ _ _)
 have HS0 := Lib.hid ((St.refl w).alloc #[.int .i64 (s0 : Int), .slice G gn gc, .slice G' n' c'] 26); clear h' hg hgs hds hst hok hs01 hn6 hdok hst' hSA hSC z1 z2; go_enter Tryz.func60, Tryz.ntmps60
 go_wp2_with fail
 refine (taskValid_spec _ t _ (HV.out.up HS0.out.below)).mono ?_; rw [HOK.out]; rintro e w1 ⟨rfl, hb1⟩; have HS1 := Lib.hid (HS0.out.quiet hb1); have C0 := Lib.hid (HS1.out.cells 0 rfl 0); have C1 := Lib.hid (HS1.out.cells 0 rfl 1); have HG0 : Hid (w.heap.size < w1.heap.size) := Lib.hid (HS1.out.new 0 rfl).2; clear hb1 HS0
 go_upto_region 3 with (fail)
 refine wpr (σ := Unit)
  (fun _ i => match i with
  | 0 => .pointer (some ⟨w.heap.size, 0, none⟩)
  | 1 => .int .i64 (s0 : Int)
  | 2 => .string SA
  | 3 => .string (SA ++ ⟨#[62]⟩)
  | 4 => .pointer (some ⟨w.heap.size, 1, none⟩)
  | 5 => .slice G gn gc
  | 6 => .string SC
  | 7 => .string (SA ++ ⟨#[62]⟩ ++ SC)
  | 8 => .string (SA ++ ⟨#[62]⟩ ++ SC)
  | _ => undef)
  (fun D _ wx => Below w1.heap.size w1 wx) () (fun D hD => (Below.refl _ _).drew) ?_ ?_
 ·refine Cs (fun D _ wx hR _ hd _ _ hs K hK => ?_) ?_
  ·have e1 := hs.o 1 (.pointer (some ⟨w.heap.size, 0, none⟩)); clear hs; go_simp; exact hK () wx sv hR
  refine Cs (fun D _ wx hR _ hd _ _ hs K hK => ?_) ?_
  ·have e9 := hs.v 0 9 hd; clear hs; have c0 : wx.cell? ⟨w.heap.size, 0, none⟩ = some (.int .i64 (s0 : Int)) := (bcells hR _ _ HG0.out).trans C0.out; go_simp; exact hK () wx sv hR
  refine Cs (fun D _ wx hR _ hd _ _ hs K hK => ?_) ?_
  ·have e10 := hs.v 1 10 hd; have g10 := getQ e10; clear hs; go_simp; refine (l6Letters_any s0 hs32 wx).mono ?_; rw [HSA.out]; rintro e2 w2 ⟨rfl, hb2⟩; exact hK () w2 sv (hR.trans (hb2.mono hR.size))
  refine Cs (fun D _ wx hR _ hd _ _ hs K hK => ?_) ?_
  ·have e11 := hs.v 2 11 hd; clear hs; have q1 := HN1.out; go_simp; exact hK () wx sv hR
  refine Cs (fun D _ wx hR _ hd _ _ hs K hK => ?_) ?_
  ·have e1 := hs.o 1 (.pointer (some ⟨w.heap.size, 0, none⟩)); clear hs; go_simp; exact hK () wx sv hR
  refine Cs (fun D _ wx hR _ hd _ _ hs K hK => ?_) ?_
  ·have e13 := hs.v 4 13 hd; clear hs; have c0 : wx.cell? ⟨w.heap.size, 1, none⟩ = some (.slice G gn gc) := (bcells hR _ _ HG0.out).trans C1.out; go_simp; exact hK () wx sv hR
  refine Cs (fun D _ wx hR _ hd _ _ hs K hK => ?_) ?_
  ·have e14 := hs.v 5 14 hd; have g14 := getQ e14; clear hs; go_simp; refine (codeText_spec G gn gc t.goal wx (HGL.out.up ((HS1.out.below).trans (hR.mono HS1.out.below.size))) (by have := HGN.out; omega)).mono ?_; rw [HSC.out]; rintro e2 w2 ⟨rfl, hb2⟩; exact hK () w2 sv (hR.trans (hb2.mono hR.size))
  refine Cs (fun D _ wx hR _ hd _ _ hs K hK => ?_) ?_
  ·have e12 := hs.v 3 12 hd; have e15 := hs.v 6 15 hd; clear hs; have q1 := HN2.out; go_simp; exact hK () wx sv hR
  refine Cs (fun D _ wx hR _ hd _ _ hs K hK => ?_) ?_
  ·have e16 := hs.v 7 16 hd; clear hs; go_simp; exact hK () wx sv hR
  exact StepAll.nil
 intro D _ wx hR hD; simp only [putA, Act.put, List.setIfInBounds_toArray, List.set_cons_zero, List.set_cons_succ]; have HS2 := Lib.hid (HS1.out.quiet hR); clear hR hD HS1 C0 C1 HG0; go_wp2
 go_loopw [4, 3] (fun i v wr => ∃ (k : Nat) (q : ByteArray), k ≤ n' ∧ i = .int .i64 k ∧ v = .string q ∧ Hid (q = ⟨(headT t ++ (t.deeds.take k).flatMap deedT).toArray⟩) ∧ St w wr [rBlk w.heap.size 26 #[.int .i64 (s0 : Int), .slice G gn gc, .slice G' n' c']]) (fun i _ _ => n' - (intOf i).toNat)
 case atStart => exact ⟨0, _, by omega, rfl, rfl, HQ0, HS2.out⟩
 case round =>
  clear HS2 HQ0; obtain ⟨k, q, hk, rfl, rfl, HQ, S⟩ := hrel; have HS := Lib.hid S; clear S; have c2 : wr.cell? ⟨w.heap.size, 2, none⟩ = some (.slice G' n' c') := HS.out.cells 0 rfl 2
  by_cases hlt : k < n'
  ·obtain ⟨db, off, d, rfl, hdb, hd, hda⟩ := HDS.out.get hlt; obtain ⟨An, nn, cn, p0, p1, p2, p3, hneed, hnn, -⟩ := hda; have r0 : wr.cell? ⟨db, off + k * 4, none⟩ = some (.slice An nn cn) := (bcells HS.out.below db _ hdb).trans p0; have r1 : wr.cell? ⟨db, off + k * 4 + 1, none⟩ = some (.int .i64 d.on) := (bcells HS.out.below db _ hdb).trans p1; have r2 : wr.cell? ⟨db, off + k * 4 + 2, none⟩ = some (.int .i64 d.off) := (bcells HS.out.below db _ hdb).trans p2; have r3 : wr.cell? ⟨db, off + k * 4 + 3, none⟩ = some (.int .i64 d.flip) := (bcells HS.out.below db _ hdb).trans p3; obtain ⟨⟨o1, o2⟩, ⟨f1, f2⟩, x1, x2⟩ := deed_sets (HDOK.out d (List.mem_of_getElem? hd)); have HSN_ := Lib.hid (deeds_snoc hd); obtain ⟨don, hon⟩ : ∃ x, d.on = x := ⟨_, rfl⟩; obtain ⟨dof, hof⟩ : ∃ x, d.off = x := ⟨_, rfl⟩; obtain ⟨dfl, hfl⟩ : ∃ x, d.flip = x := ⟨_, rfl⟩; have HDT : Hid (deedT d = 59 :: (codeT d.need ++ 58 :: (letT don.toNat ++ 44 :: (letT dof.toNat ++ 44 :: letT dfl.toNat)))) := Lib.hid (by unfold deedT; rw [hon, hof, hfl]); rw [hon] at r1 o1 o2; rw [hof] at r2 f1 f2; rw [hfl] at r3 x1 x2; obtain ⟨on, rfl⟩ := Int.eq_ofNat_of_zero_le o1; obtain ⟨of, rfl⟩ := Int.eq_ofNat_of_zero_le f1; obtain ⟨fl, rfl⟩ := Int.eq_ofNat_of_zero_le x1; have on32 : on < 32 := by omega
   have of32 : of < 32 := by omega
   have fl32 : fl < 32 := by omega
   simp only [Int.toNat_natCast] at HDT; obtain ⟨SN, hSN⟩ : ∃ x : ByteArray, (⟨(codeT d.need).toArray⟩ : ByteArray) = x := ⟨_, rfl⟩; obtain ⟨S1, hS1⟩ : ∃ x : ByteArray, (⟨(letT on).toArray⟩ : ByteArray) = x := ⟨_, rfl⟩; obtain ⟨S2, hS2⟩ : ∃ x : ByteArray, (⟨(letT of).toArray⟩ : ByteArray) = x := ⟨_, rfl⟩; obtain ⟨S3, hS3⟩ : ∃ x : ByteArray, (⟨(letT fl).toArray⟩ : ByteArray) = x := ⟨_, rfl⟩
   have y0 : q.size ≤ 3000 := by
    rw [HQ.out, sz_list, List.length_append]
    have := deedsT_len (t.deeds.take k)
    have := HHL.out
    have : (t.deeds.take k).length ≤ k := List.length_take_le _ _
    omega
   have y1 : SN.size ≤ 200 := by rw [← hSN, sz_list]; exact codeT_len _
   have y2 : S1.size ≤ 5 := by rw [← hS1, sz_list]; exact letT_len _
   have y3 : S2.size ≤ 5 := by rw [← hS2, sz_list]; exact letT_len _
   have y4 : S3.size ≤ 5 := by rw [← hS3, sz_list]; exact letT_len _
   have HQ2 : Hid (q ++ ⟨#[59]⟩ ++ SN ++ ⟨#[58]⟩ ++ S1 ++ ⟨#[44]⟩ ++ S2 ++ ⟨#[44]⟩ ++ S3 = ⟨(headT t ++ (t.deeds.take (k + 1)).flatMap deedT).toArray⟩) := Lib.hid (by
    rw [HSN_.out, HDT.out, HQ.out, ← hSN, ← hS1, ← hS2, ← hS3]; rw [ba3S, ba3S, ba3S, ba3S]
    simp)
   have N1 := Lib.hid (show ¬ 9223372036854775807 < q.size + 1 by omega); have N2 := Lib.hid (show ¬ 9223372036854775807 < q.size + 1 + SN.size by omega); have N3 := Lib.hid (show ¬ 9223372036854775807 < q.size + 1 + SN.size + 1 by omega); have N4 := Lib.hid (show ¬ 9223372036854775807 < q.size + 1 + SN.size + 1 + S1.size by omega); have N5 := Lib.hid (show ¬ 9223372036854775807 < q.size + 1 + SN.size + 1 + S1.size + 1 by omega); have N6 := Lib.hid (show ¬ 9223372036854775807 < q.size + 1 + SN.size + 1 + S1.size + 1 + S2.size by omega); have N7 := Lib.hid (show ¬ 9223372036854775807 < q.size + 1 + SN.size + 1 + S1.size + 1 + S2.size + 1 by omega); have N8 := Lib.hid (show ¬ 9223372036854775807 < q.size + 1 + SN.size + 1 + S1.size + 1 + S2.size + 1 + S3.size by omega); have HSN := Bx.mk hSN; have HS1_ := Bx.mk hS1; have HS2_ := Bx.mk hS2; have HS3_ := Bx.mk hS3; have HN := Lib.hid (hneed.up (HS.out.below.trans ((Below.refl _ _).alloc HS.out.below.size (.cells #[.slice An nn cn, .int .i64 (on : Int), .int .i64 (of : Int), .int .i64 (fl : Int)] 144)))); have HNN := Lib.hid hnn; have HSB := Lib.hid (HS.out.alloc #[.slice An nn cn, .int .i64 (on : Int), .int .i64 (of : Int), .int .i64 (fl : Int)] 144); clear p0 p1 p2 p3 hneed hnn hd HS o1 o2 f1 f2 x1 x2 hon hof hfl hSN hS1 hS2 hS3 y0 y1 y2 y3 y4 HQ HSN_ HDT
   go_upto_region 8 with (fail)
   obtain ⟨dg, hdg⟩ : ∃ x, wr.heap.size = x := ⟨_, rfl⟩; obtain ⟨wb, hwb⟩ : ∃ x, wr.alloc (.cells #[.slice An nn cn, .int .i64 (on : Int), .int .i64 (of : Int), .int .i64 (fl : Int)] 144) = x := ⟨_, rfl⟩; rw [hwb] at HSB HN ⊢
   rw [hdg] at HSB ⊢
   have D0 := Lib.hid (HSB.out.cells 1 rfl 0); have D1 := Lib.hid (HSB.out.cells 1 rfl 1); have D2 := Lib.hid (HSB.out.cells 1 rfl 2); have D3 := Lib.hid (HSB.out.cells 1 rfl 3); have HDG : Hid (dg < wb.heap.size) := Lib.hid (HSB.out.new 1 rfl).2; clear hwb hdg c2 r0 r1 r2 r3
   refine wpr (σ := Unit)
    (fun _ i => match i with
    | 0 => .string q
    | 1 => .string (q ++ ⟨#[59]⟩)
    | 2 => .pointer (some ⟨dg, 0, none⟩)
    | 3 => .slice An nn cn
    | 4 => .string SN
    | 5 => .string (q ++ ⟨#[59]⟩ ++ SN)
    | 6 => .string (q ++ ⟨#[59]⟩ ++ SN ++ ⟨#[58]⟩)
    | 7 => .pointer (some ⟨dg, 1, none⟩)
    | 8 => .int .i64 (on : Int)
    | 9 => .string S1
    | 10 => .string (q ++ ⟨#[59]⟩ ++ SN ++ ⟨#[58]⟩ ++ S1)
    | 11 => .string (q ++ ⟨#[59]⟩ ++ SN ++ ⟨#[58]⟩ ++ S1 ++ ⟨#[44]⟩)
    | 12 => .pointer (some ⟨dg, 2, none⟩)
    | 13 => .int .i64 (of : Int)
    | 14 => .string S2
    | 15 => .string (q ++ ⟨#[59]⟩ ++ SN ++ ⟨#[58]⟩ ++ S1 ++ ⟨#[44]⟩ ++ S2)
    | 16 => .string (q ++ ⟨#[59]⟩ ++ SN ++ ⟨#[58]⟩ ++ S1 ++ ⟨#[44]⟩ ++ S2 ++ ⟨#[44]⟩)
    | 17 => .pointer (some ⟨dg, 3, none⟩)
    | 18 => .int .i64 (fl : Int)
    | 19 => .string S3
    | 20 => .string (q ++ ⟨#[59]⟩ ++ SN ++ ⟨#[58]⟩ ++ S1 ++ ⟨#[44]⟩ ++ S2 ++ ⟨#[44]⟩ ++ S3)
    | 21 => .string (q ++ ⟨#[59]⟩ ++ SN ++ ⟨#[58]⟩ ++ S1 ++ ⟨#[44]⟩ ++ S2 ++ ⟨#[44]⟩ ++ S3)
    | _ => undef)
    (fun D _ wx => Below wb.heap.size wb wx) () (fun D hD => (Below.refl _ _).drew) ?_ ?_
   ·refine Cs (fun D _ wx hR hDi hd hsh _ hs K hK => ?_) ?_
    ·have m21 : D 21 = false := hsh.no hDi 21 rfl ⟨0, .phase⟩ (by simp) rfl rfl; have e3 := hs.before 21 3 (u := .string q) rfl m21 (by kernel_rfl) rfl; clear hs; go_simp; exact hK () wx sv hR
    refine Cs (fun D _ wx hR _ hd _ _ hs K hK => ?_) ?_
    ·have e29 := hs.v 0 29 hd; clear hs; have q1 := N1.out; go_simp; exact hK () wx sv hR
    refine Cs (fun D _ wx hR _ hd _ _ hs K hK => ?_) ?_
    ·have e5 := hs.o 5 (.pointer (some ⟨dg, 0, none⟩)); clear hs; go_simp; exact hK () wx sv hR
    refine Cs (fun D _ wx hR _ hd _ _ hs K hK => ?_) ?_
    ·have e31 := hs.v 2 31 hd; clear hs; have c0 : wx.cell? ⟨dg, 0, none⟩ = some (.slice An nn cn) := (bcells hR _ _ HDG.out).trans D0.out; go_simp; exact hK () wx sv hR
    refine Cs (fun D _ wx hR _ hd _ _ hs K hK => ?_) ?_
    ·have e32 := hs.v 3 32 hd; have g32 := getQ e32; clear hs; go_simp; refine (codeText_spec An nn cn d.need wx (HN.out.up hR) (by have := HNN.out; omega)).mono ?_; rw [HSN.out]; rintro e2 w2 ⟨rfl, hb2⟩; exact hK () w2 sv (hR.trans (hb2.mono hR.size))
    refine Cs (fun D _ wx hR _ hd _ _ hs K hK => ?_) ?_
    ·have e30 := hs.v 1 30 hd; have e33 := hs.v 4 33 hd; clear hs; have q1 := N2.out; go_simp; exact hK () wx sv hR
    refine Cs (fun D _ wx hR _ hd _ _ hs K hK => ?_) ?_
    ·have e34 := hs.v 5 34 hd; clear hs; have q1 := N3.out; go_simp; exact hK () wx sv hR
    refine Cs (fun D _ wx hR _ hd _ _ hs K hK => ?_) ?_
    ·have e5 := hs.o 5 (.pointer (some ⟨dg, 0, none⟩)); clear hs; go_simp; exact hK () wx sv hR
    refine Cs (fun D _ wx hR _ hd _ _ hs K hK => ?_) ?_
    ·have e36 := hs.v 7 36 hd; clear hs; have c0 : wx.cell? ⟨dg, 1, none⟩ = some (.int .i64 (on : Int)) := (bcells hR _ _ HDG.out).trans D1.out; go_simp; exact hK () wx sv hR
    refine Cs (fun D _ wx hR _ hd _ _ hs K hK => ?_) ?_
    ·have e37 := hs.v 8 37 hd; have g37 := getQ e37; clear hs; go_simp; refine (l6Letters_any on on32 wx).mono ?_; rw [HS1_.out]; rintro e2 w2 ⟨rfl, hb2⟩; exact hK () w2 sv (hR.trans (hb2.mono hR.size))
    refine Cs (fun D _ wx hR _ hd _ _ hs K hK => ?_) ?_
    ·have e35 := hs.v 6 35 hd; have e38 := hs.v 9 38 hd; clear hs; have q1 := N4.out; go_simp; exact hK () wx sv hR
    refine Cs (fun D _ wx hR _ hd _ _ hs K hK => ?_) ?_
    ·have e39 := hs.v 10 39 hd; clear hs; have q1 := N5.out; go_simp; exact hK () wx sv hR
    refine Cs (fun D _ wx hR _ hd _ _ hs K hK => ?_) ?_
    ·have e5 := hs.o 5 (.pointer (some ⟨dg, 0, none⟩)); clear hs; go_simp; exact hK () wx sv hR
    refine Cs (fun D _ wx hR _ hd _ _ hs K hK => ?_) ?_
    ·have e41 := hs.v 12 41 hd; clear hs; have c0 : wx.cell? ⟨dg, 2, none⟩ = some (.int .i64 (of : Int)) := (bcells hR _ _ HDG.out).trans D2.out; go_simp; exact hK () wx sv hR
    refine Cs (fun D _ wx hR _ hd _ _ hs K hK => ?_) ?_
    ·have e42 := hs.v 13 42 hd; have g42 := getQ e42; clear hs; go_simp; refine (l6Letters_any of of32 wx).mono ?_; rw [HS2_.out]; rintro e2 w2 ⟨rfl, hb2⟩; exact hK () w2 sv (hR.trans (hb2.mono hR.size))
    refine Cs (fun D _ wx hR _ hd _ _ hs K hK => ?_) ?_
    ·have e40 := hs.v 11 40 hd; have e43 := hs.v 14 43 hd; clear hs; have q1 := N6.out; go_simp; exact hK () wx sv hR
    refine Cs (fun D _ wx hR _ hd _ _ hs K hK => ?_) ?_
    ·have e44 := hs.v 15 44 hd; clear hs; have q1 := N7.out; go_simp; exact hK () wx sv hR
    refine Cs (fun D _ wx hR _ hd _ _ hs K hK => ?_) ?_
    ·have e5 := hs.o 5 (.pointer (some ⟨dg, 0, none⟩)); clear hs; go_simp; exact hK () wx sv hR
    refine Cs (fun D _ wx hR _ hd _ _ hs K hK => ?_) ?_
    ·have e46 := hs.v 17 46 hd; clear hs; have c0 : wx.cell? ⟨dg, 3, none⟩ = some (.int .i64 (fl : Int)) := (bcells hR _ _ HDG.out).trans D3.out; go_simp; exact hK () wx sv hR
    refine Cs (fun D _ wx hR _ hd _ _ hs K hK => ?_) ?_
    ·have e47 := hs.v 18 47 hd; have g47 := getQ e47; clear hs; go_simp; refine (l6Letters_any fl fl32 wx).mono ?_; rw [HS3_.out]; rintro e2 w2 ⟨rfl, hb2⟩; exact hK () w2 sv (hR.trans (hb2.mono hR.size))
    refine Cs (fun D _ wx hR _ hd _ _ hs K hK => ?_) ?_
    ·have e45 := hs.v 16 45 hd; have e48 := hs.v 19 48 hd; clear hs; have q1 := N8.out; go_simp; exact hK () wx sv hR
    refine Cs (fun D _ wx hR _ hd _ _ hs K hK => ?_) ?_
    ·have e49 := hs.v 20 49 hd; clear hs; go_simp; exact hK () wx sv hR
    exact StepAll.nil
   intro D _ wx hR hD; simp only [putA, Act.put, List.setIfInBounds_toArray, List.set_cons_zero, List.set_cons_succ]; have HSX := Lib.hid (HSB.out.quiet hR); clear hR hD HSB D0 D1 D2 D3 HDG; go_wp2
   go_roundw
   case rel => exact ⟨k + 1, _, by omega, by go_num, rfl, HQ2, HSX.out.pick [0] (by decide) rfl rfl⟩
   case measure => simp [intOf]; omega
  ·have hke : k = n' := by omega
   have HE : Hid (q = ⟨(taskT t).toArray⟩) := Lib.hid (by rw [HQ.out, HSP.out, hke, ← HDL.out, List.take_length]); clear hke HQ; go_wp2; go_ret; exact ⟨ret_ba HE.out, HS.out.below⟩
end Go.Proofs.YtkmcengmglgdeaaGreatDoor


namespace Go.Proofs
open Go.Shelf
def Tryz.laysM171_ren : Go.Shelf.Ren := ⟨fun | 171 => 95 | 243 => 151 | 246 => 183 | 283 => 205 | 284 => 206 | 285 => 207 | 286 => 208 | 129 => 220 | 317 => 219 | 318 => 221 | 319 => 222 | 320 => 223 | 337 => 230 | 338 => 231 | n => n, fun | 3 => 3 | 9 => 9 | 2 => 2 | 4 => 4 | 171 => 195 | 0 => 0 | 53 => 196 | 37 => 22 | 5 => 5 | 173 => 199 | 212 => 226 | 51 => 222 | 20 => 20 | 213 => 227 | 46 => 194 | 232 => 247 | 233 => 248 | n => n, fun | 17 => 2 | 18 => 3 | 19 => 4 | n => n⟩
theorem Tryz.laysM171 : Go.Proofs.LaysM.n171 Tryz.prog Tryz.laysM171_ren := {
 mixed := by kernel_rfl
 f129 := Tryz.func220.trans (congrArg some (by kernel_rfl))
 f171 := Tryz.func95.trans (congrArg some (by kernel_rfl))
 f243 := Tryz.func151.trans (congrArg some (by kernel_rfl))
 f246 := Tryz.func183.trans (congrArg some (by kernel_rfl))
 f283 := Tryz.func205.trans (congrArg some (by kernel_rfl))
 f284 := Tryz.func206.trans (congrArg some (by kernel_rfl))
 f285 := Tryz.func207.trans (congrArg some (by kernel_rfl))
 f286 := Tryz.func208.trans (congrArg some (by kernel_rfl))
 f317 := Tryz.func219.trans (congrArg some (by kernel_rfl))
 f318 := Tryz.func221.trans (congrArg some (by kernel_rfl))
 f319 := Tryz.func222.trans (congrArg some (by kernel_rfl))
 f320 := Tryz.func223.trans (congrArg some (by kernel_rfl))
 f337 := Tryz.func230.trans (congrArg some (by kernel_rfl))
 f338 := Tryz.func231.trans (congrArg some (by kernel_rfl))
 t0 := Tryz.underlying0
 a0 := Tryz.isAgg0
 z0 := Tryz.sizeOf0
 v0 := Tryz.zeroValue0
 t2 := Tryz.underlying2
 a2 := Tryz.isAgg2
 z2 := Tryz.sizeOf2
 v2 := Tryz.zeroValue2
 t3 := Tryz.underlying3
 a3 := Tryz.isAgg3
 z3 := Tryz.sizeOf3
 v3 := Tryz.zeroValue3
 t4 := Tryz.underlying4
 a4 := Tryz.isAgg4
 z4 := Tryz.sizeOf4
 v4 := Tryz.zeroValue4
 t5 := Tryz.underlying5
 a5 := Tryz.isAgg5
 z5 := Tryz.sizeOf5
 v5 := Tryz.zeroValue5
 t9 := Tryz.underlying9
 a9 := Tryz.isAgg9
 z9 := Tryz.sizeOf9
 v9 := Tryz.zeroValue9
 t20 := Tryz.underlying20
 a20 := Tryz.isAgg20
 z20 := Tryz.sizeOf20
 v20 := Tryz.zeroValue20
 t37 := Tryz.underlying22
 a37 := Tryz.isAgg22
 z37 := Tryz.sizeOf22
 v37 := Tryz.zeroValue22
 t46 := Tryz.underlying194
 a46 := Tryz.isAgg194
 z46 := Tryz.sizeOf194
 v46 := Tryz.zeroValue194
 t51 := Tryz.underlying222
 a51 := Tryz.isAgg222
 z51 := Tryz.sizeOf222
 v51 := Tryz.zeroValue222
 t53 := Tryz.underlying196
 a53 := Tryz.isAgg196
 z53 := Tryz.sizeOf196
 v53 := Tryz.zeroValue196
 t171 := Tryz.underlying195
 a171 := Tryz.isAgg195
 z171 := Tryz.sizeOf195
 v171 := Tryz.zeroValue195
 t173 := Tryz.underlying199
 a173 := Tryz.isAgg199
 z173 := Tryz.sizeOf199
 v173 := Tryz.zeroValue199
 t212 := Tryz.underlying226
 a212 := Tryz.isAgg226
 z212 := Tryz.sizeOf226
 v212 := Tryz.zeroValue226
 t213 := Tryz.underlying227
 a213 := Tryz.isAgg227
 z213 := Tryz.sizeOf227
 t232 := Tryz.underlying247
 a232 := Tryz.isAgg247
 z232 := Tryz.sizeOf247
 v232 := Tryz.zeroValue247
 t233 := Tryz.underlying248
 a233 := Tryz.isAgg248
 z233 := Tryz.sizeOf248
 v233 := Tryz.zeroValue248
 g17 := by kernel_rfl
 g18 := by kernel_rfl
 g19 := by kernel_rfl
 i0 := by kernel_rfl
 i2 := by kernel_rfl
 i3 := by kernel_rfl
 i4 := by kernel_rfl
 i5 := by kernel_rfl
 i9 := by kernel_rfl
 i20 := by kernel_rfl
 i37 := by kernel_rfl
 i46 := by kernel_rfl
 i51 := by kernel_rfl
 i53 := by kernel_rfl
 i171 := by kernel_rfl
 i173 := by kernel_rfl
 i212 := by kernel_rfl
 i232 := by kernel_rfl
 i233 := by kernel_rfl
 m17 := by kernel_rfl
 m18 := by kernel_rfl
 m19 := by kernel_rfl }
open Go.RowKit Go.Sort Go.Lib in
theorem Tryz.strconv_Itoa (n : Int) (h0 : -9223372036854775808 ≤ n) (h1 : n ≤ 9223372036854775807) (w : World) (htab : Lib.TabIs Tryz.prog w "internal/strconv.uint64pow10" .u64 Lib.pow10Tab) :
  Calls Tryz.prog 95 #[.int .i64 n] w fun e w' => e = .returned (.string ⟨(Lib.itoa n).toArray⟩) ∧ ∃ k os, w' = grow (w.drewN k) os := Any.strconv_Itoa Tryz.laysM171 n h0 h1 w htab
def Tryz.lays143_ren : Go.Shelf.Ren := ⟨fun | 143 => 226 | 219 => 182 | 217 => 201 | 225 => 202 | 224 => 203 | 267 => 204 | 266 => 217 | 314 => 218 | n => n, fun | 9 => 9 | 3 => 3 | 4 => 4 | 5 => 5 | 46 => 194 | 146 => 223 | 51 => 222 | n => n, fun | 1 => 0 | n => n⟩
theorem Tryz.lays143 : Go.Proofs.Lays.n143 Tryz.prog Tryz.lays143_ren := {
 mixed := by kernel_rfl
 f143 := Tryz.func226.trans (congrArg some (by kernel_rfl))
 f217 := Tryz.func201.trans (congrArg some (by kernel_rfl))
 f219 := Tryz.func182.trans (congrArg some (by kernel_rfl))
 f224 := Tryz.func203.trans (congrArg some (by kernel_rfl))
 f225 := Tryz.func202.trans (congrArg some (by kernel_rfl))
 f266 := Tryz.func217.trans (congrArg some (by kernel_rfl))
 f267 := Tryz.func204.trans (congrArg some (by kernel_rfl))
 f314 := Tryz.func218.trans (congrArg some (by kernel_rfl))
 t3 := Tryz.underlying3
 a3 := Tryz.isAgg3
 z3 := Tryz.sizeOf3
 v3 := Tryz.zeroValue3
 t4 := Tryz.underlying4
 a4 := Tryz.isAgg4
 z4 := Tryz.sizeOf4
 v4 := Tryz.zeroValue4
 t5 := Tryz.underlying5
 a5 := Tryz.isAgg5
 z5 := Tryz.sizeOf5
 v5 := Tryz.zeroValue5
 t9 := Tryz.underlying9
 a9 := Tryz.isAgg9
 z9 := Tryz.sizeOf9
 v9 := Tryz.zeroValue9
 t46 := Tryz.underlying194
 a46 := Tryz.isAgg194
 z46 := Tryz.sizeOf194
 v46 := Tryz.zeroValue194
 t51 := Tryz.underlying222
 a51 := Tryz.isAgg222
 z51 := Tryz.sizeOf222
 v51 := Tryz.zeroValue222
 t146 := Tryz.underlying223
 a146 := Tryz.isAgg223
 z146 := Tryz.sizeOf223
 v146 := Tryz.zeroValue223
 g1 := by kernel_rfl }
open Go.RowKit Go.Lib in
theorem Tryz.strings_Index_one (s : ByteArray) (c : UInt8) (w : World) :
  Calls Tryz.prog 226 #[.string s, .string ⟨#[c]⟩] w fun e w' => e = .returned (.int .i64 (Lib.indexByte s.data.toList c)) ∧ w' = w := Any.strings_Index_one Tryz.lays143 s c w
def Tryz.lays138_ren : Go.Shelf.Ren := ⟨fun | 138 => 225 | 195 => 232 | 218 => 234 | 143 => 226 | 219 => 182 | 217 => 201 | 225 => 202 | 224 => 203 | 267 => 204 | 266 => 217 | 314 => 218 | n => n, fun | 9 => 9 | 3 => 3 | 4 => 4 | 5 => 5 | 0 => 0 | 46 => 194 | 146 => 223 | 51 => 222 | n => n, fun | 1 => 0 | n => n⟩
theorem Tryz.lays138 : Go.Proofs.Lays.n138 Tryz.prog Tryz.lays138_ren := {
 mixed := by kernel_rfl
 f138 := Tryz.func225.trans (congrArg some (by kernel_rfl))
 f143 := Tryz.func226.trans (congrArg some (by kernel_rfl))
 f195 := Tryz.func232.trans (congrArg some (by kernel_rfl))
 f217 := Tryz.func201.trans (congrArg some (by kernel_rfl))
 f218 := Tryz.func234.trans (congrArg some (by kernel_rfl))
 f219 := Tryz.func182.trans (congrArg some (by kernel_rfl))
 f224 := Tryz.func203.trans (congrArg some (by kernel_rfl))
 f225 := Tryz.func202.trans (congrArg some (by kernel_rfl))
 f266 := Tryz.func217.trans (congrArg some (by kernel_rfl))
 f267 := Tryz.func204.trans (congrArg some (by kernel_rfl))
 f314 := Tryz.func218.trans (congrArg some (by kernel_rfl))
 t0 := Tryz.underlying0
 a0 := Tryz.isAgg0
 z0 := Tryz.sizeOf0
 v0 := Tryz.zeroValue0
 t3 := Tryz.underlying3
 a3 := Tryz.isAgg3
 z3 := Tryz.sizeOf3
 v3 := Tryz.zeroValue3
 t4 := Tryz.underlying4
 a4 := Tryz.isAgg4
 z4 := Tryz.sizeOf4
 v4 := Tryz.zeroValue4
 t5 := Tryz.underlying5
 a5 := Tryz.isAgg5
 z5 := Tryz.sizeOf5
 v5 := Tryz.zeroValue5
 t9 := Tryz.underlying9
 a9 := Tryz.isAgg9
 z9 := Tryz.sizeOf9
 v9 := Tryz.zeroValue9
 t46 := Tryz.underlying194
 a46 := Tryz.isAgg194
 z46 := Tryz.sizeOf194
 v46 := Tryz.zeroValue194
 t51 := Tryz.underlying222
 a51 := Tryz.isAgg222
 z51 := Tryz.sizeOf222
 v51 := Tryz.zeroValue222
 t146 := Tryz.underlying223
 a146 := Tryz.isAgg223
 z146 := Tryz.sizeOf223
 v146 := Tryz.zeroValue223
 g1 := by kernel_rfl }
open Go.RowKit Go.Lib in
theorem Tryz.strings_Count_one (s : ByteArray) (c : UInt8) (w : World) :
  Calls Tryz.prog 225 #[.string s, .string ⟨#[c]⟩] w fun e w' => e = .returned (.int .i64 (Lib.countByte s.data.toList c)) ∧ w' = w := Any.strings_Count_one Tryz.lays138 s c w
def Tryz.lays221_ren : Go.Shelf.Ren := ⟨fun | 221 => 212 | 268 => 224 | 138 => 225 | 143 => 226 | 195 => 232 | 197 => 233 | 218 => 234 | 219 => 182 | 260 => 235 | 217 => 201 | 225 => 202 | 224 => 203 | 267 => 204 | 266 => 217 | 314 => 218 | n => n, fun | 9 => 9 | 3 => 3 | 31 => 43 | 4 => 4 | 0 => 0 | 105 => 245 | 21 => 21 | 5 => 5 | 46 => 194 | 119 => 249 | 139 => 252 | 138 => 251 | 146 => 223 | 51 => 222 | n => n, fun | 1 => 0 | 3 => 5 | 4 => 6 | n => n⟩
theorem Tryz.lays221 : Go.Proofs.Lays.n221 Tryz.prog Tryz.lays221_ren := {
 mixed := by kernel_rfl
 f138 := Tryz.func225.trans (congrArg some (by kernel_rfl))
 f143 := Tryz.func226.trans (congrArg some (by kernel_rfl))
 f195 := Tryz.func232.trans (congrArg some (by kernel_rfl))
 f197 := Tryz.func233.trans (congrArg some (by kernel_rfl))
 f217 := Tryz.func201.trans (congrArg some (by kernel_rfl))
 f218 := Tryz.func234.trans (congrArg some (by kernel_rfl))
 f219 := Tryz.func182.trans (congrArg some (by kernel_rfl))
 f221 := Tryz.func212.trans (congrArg some (by kernel_rfl))
 f224 := Tryz.func203.trans (congrArg some (by kernel_rfl))
 f225 := Tryz.func202.trans (congrArg some (by kernel_rfl))
 f260 := Tryz.func235.trans (congrArg some (by kernel_rfl))
 f266 := Tryz.func217.trans (congrArg some (by kernel_rfl))
 f267 := Tryz.func204.trans (congrArg some (by kernel_rfl))
 f268 := Tryz.func224.trans (congrArg some (by kernel_rfl))
 f314 := Tryz.func218.trans (congrArg some (by kernel_rfl))
 t0 := Tryz.underlying0
 a0 := Tryz.isAgg0
 z0 := Tryz.sizeOf0
 v0 := Tryz.zeroValue0
 t3 := Tryz.underlying3
 a3 := Tryz.isAgg3
 z3 := Tryz.sizeOf3
 v3 := Tryz.zeroValue3
 t4 := Tryz.underlying4
 a4 := Tryz.isAgg4
 z4 := Tryz.sizeOf4
 v4 := Tryz.zeroValue4
 t5 := Tryz.underlying5
 a5 := Tryz.isAgg5
 z5 := Tryz.sizeOf5
 v5 := Tryz.zeroValue5
 t9 := Tryz.underlying9
 a9 := Tryz.isAgg9
 z9 := Tryz.sizeOf9
 v9 := Tryz.zeroValue9
 t21 := Tryz.underlying21
 a21 := Tryz.isAgg21
 z21 := Tryz.sizeOf21
 v21 := Tryz.zeroValue21
 t31 := Tryz.underlying43
 a31 := Tryz.isAgg43
 z31 := Tryz.sizeOf43
 v31 := Tryz.zeroValue43
 t46 := Tryz.underlying194
 a46 := Tryz.isAgg194
 z46 := Tryz.sizeOf194
 v46 := Tryz.zeroValue194
 t51 := Tryz.underlying222
 a51 := Tryz.isAgg222
 z51 := Tryz.sizeOf222
 v51 := Tryz.zeroValue222
 t105 := Tryz.underlying245
 a105 := Tryz.isAgg245
 z105 := Tryz.sizeOf245
 v105 := Tryz.zeroValue245
 t119 := Tryz.underlying249
 a119 := Tryz.isAgg249
 z119 := Tryz.sizeOf249
 t138 := Tryz.underlying251
 a138 := Tryz.isAgg251
 z138 := Tryz.sizeOf251
 v138 := Tryz.zeroValue251
 t139 := Tryz.underlying252
 a139 := Tryz.isAgg252
 z139 := Tryz.sizeOf252
 v139 := Tryz.zeroValue252
 t146 := Tryz.underlying223
 a146 := Tryz.isAgg223
 z146 := Tryz.sizeOf223
 v146 := Tryz.zeroValue223
 g1 := by kernel_rfl
 g3 := by kernel_rfl
 g4 := by kernel_rfl }
end Go.Proofs
