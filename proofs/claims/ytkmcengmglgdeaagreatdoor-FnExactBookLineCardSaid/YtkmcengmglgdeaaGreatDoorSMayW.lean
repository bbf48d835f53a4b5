
import Derived.Test.YtkmcengmglgdeaaGreatDoorSShortP
namespace Go.Proofs.YtkmcengmglgdeaaGreatDoor
set_option linter.unusedVariables false
set_option linter.unusedSimpArgs false
open Go.ChangeShapes Go.WideShapes Go.ChangeAt Go.RowKit

def deedDoR (d : DeedD) (s : Int) : Int := if deedOk d = true ∧ stIn s = true then opt (deedDo d s.toNat) else -1
theorem deedsMay_no (t : TaskD) (s : Int) (h : taskOk t = false ∨ stIn s = false) : deedsMay t s = [] := by
 unfold deedsMay; rw [if_neg]; rcases h with h | h <;> simp [h]
theorem deedsMay_yes (t : TaskD) (s : Nat) (h : taskOk t = true) (h' : s < 32) : deedsMay t (s : Int) = mayN t.deeds s t.deeds.length := by
 unfold deedsMay; rw [if_pos (by rw [h, (stIn_iff _).2 ⟨by omega, by omega⟩]; rfl), Int.toNat_natCast]
theorem mayN_none {ds : List DeedD} {s k : Nat} {d : DeedD} (hd : ds[k]? = some d) (h : deedDo d s = none) : mayN ds s (k + 1) = mayN ds s k := by
 rw [mayN_succ, hd]; simp [h]
theorem mayN_some {ds : List DeedD} {s k s' : Nat} {d : DeedD} (hd : ds[k]? = some d) (h : deedDo d s = some s') : mayN ds s (k + 1) = mayN ds s k ++ [((k : Nat) : Int)] := by
 rw [mayN_succ, hd]; simp [h]
set_option maxRecDepth 100000 in
set_option maxHeartbeats 1000000 in
theorem deedsMay_impl (v : Value) (t : TaskD) (s : Int) (w : World) (h : RdT w w.heap.size v t) :
  Calls Tryz.prog 116 #[v, .int .i64 s] w (Gives w id fun v => [rInts v (deedsMay t s)]) := by
 have h' := h; obtain ⟨G, gn, gc, G', n', c', rfl, hg, hgs, hds, hst⟩ := h; have HT := Lib.hid h'; have HDS := Lib.hid hds; have HDL := Lib.hid hds.len; have HS0 := Lib.hid ((St.refl w).alloc #[.int .i64 t.start, .slice G gn gc, .slice G' n' c'] 26); obtain ⟨bo, hok⟩ : ∃ b, taskOk t = b := ⟨_, rfl⟩; have HOK := Lib.hid hok; obtain ⟨bs, hsi⟩ : ∃ b, stIn s = b := ⟨_, rfl⟩; have HSI := Lib.hid hsi; clear hok hsi hds h' hg
 cases bo with
 | false =>
  have HN := Bx.mk (deedsMay_no t s (.inl HOK.out)); go_enter Tryz.func116, Tryz.ntmps116
  go_wp2_with fail
  refine (taskValid_impl _ t _ (HT.out.up HS0.out.below)).mono ?_; rw [HOK.out]; rintro e w1 ⟨rfl, hb1⟩; have HB := Lib.hid (HS0.out.quiet hb1).below; clear hb1; go_wp2; go_ret; refine ⟨_, rfl, ?_⟩; rw [HN.out]; exact rInts_nil _ _ HB.out
 | true =>
  cases bs with
  | false =>
   have HN := Bx.mk (deedsMay_no t s (.inr HSI.out)); go_enter Tryz.func116, Tryz.ntmps116
   go_wp2_with fail
   refine (taskValid_impl _ t _ (HT.out.up HS0.out.below)).mono ?_; rw [HOK.out]; rintro e w1 ⟨rfl, hb1⟩; have HB := Lib.hid (HS0.out.quiet hb1).below; clear hb1
   go_wp2_with fail
   refine (stateOk_any s _).mono ?_; rw [HSI.out]; rintro e w2 ⟨rfl, rfl⟩; go_wp2; go_ret; refine ⟨_, rfl, ?_⟩; rw [HN.out]; exact rInts_nil _ _ HB.out
  | true =>
   obtain ⟨hs0, hs1⟩ := (stIn_iff s).1 HSI.out; obtain ⟨s, rfl⟩ := Int.eq_ofNat_of_zero_le hs0; have hs : s < 32 := by omega
   obtain ⟨-, -, hn6, hdok⟩ := taskOk_parts t HOK.out; have HDOK := Lib.hid hdok; have hn6' : n' ≤ 6 := by rw [← HDL.out]; exact hn6
   have HY := Bx.mk (deedsMay_yes t s HOK.out hs); clear hdok hs0 hs1 hn6; go_enter Tryz.func116, Tryz.ntmps116
   go_wp2_with fail
   refine (taskValid_impl _ t _ (HT.out.up HS0.out.below)).mono ?_; rw [HOK.out]; rintro e w1 ⟨rfl, hb1⟩; have HS1 := Lib.hid (HS0.out.quiet hb1); clear hb1
   go_wp2_with fail
   refine (stateOk_any (s : Int) _).mono ?_; rw [HSI.out]; rintro e w2 ⟨rfl, rfl⟩; have q1 := HS1.out.cells 0 rfl; have HS2 : Hid (St w w1 [rBlk w.heap.size 26 #[.int .i64 t.start, .slice G gn gc, .slice G' n' c'], rInts (.slice none 0 0) []]) := Lib.hid (HS1.out.call (rInts_nil _ _ (Below.refl _ _))); go_wp2
   go_loopw [19, 5] (fun i ov wr => ∃ (k : Nat) (x5 : Value) (ys : List Int), k ≤ n' ∧ i = .int .i64 k ∧ x5 = ov ∧ ys.length ≤ k ∧ Bx (mayN t.deeds s k = ys) ∧ St w wr [rBlk w.heap.size 26 #[.int .i64 t.start, .slice G gn gc, .slice G' n' c'], rInts x5 ys]) (fun i _ _ => n' - (intOf i).toNat)
   case atStart => exact ⟨0, _, [], by omega, rfl, rfl, by simp, Bx.mk rfl, HS2.out⟩
   case round =>
    clear HS2 HS1 HS0 q1; obtain ⟨k, x5, ys, hk, rfl, rfl, hyl, HM, S⟩ := hrel; have HS := Lib.hid S; clear S
    by_cases hlt : k < n'
    ·obtain ⟨b, off, d, rfl, hb, hd, hda⟩ := HDS.out.get hlt; obtain ⟨An, nn, cn, p0, p1, p2, p3, hneed, hnn, -⟩ := hda; have r0 : wr.cell? ⟨b, off + k * 4, none⟩ = some (.slice An nn cn) := (bcells HS.out.below b _ hb).trans p0; have r1 : wr.cell? ⟨b, off + k * 4 + 1, none⟩ = some (.int .i64 d.on) := (bcells HS.out.below b _ hb).trans p1; have r2 : wr.cell? ⟨b, off + k * 4 + 2, none⟩ = some (.int .i64 d.off) := (bcells HS.out.below b _ hb).trans p2; have r3 : wr.cell? ⟨b, off + k * 4 + 3, none⟩ = some (.int .i64 d.flip) := (bcells HS.out.below b _ hb).trans p3; have HDO := Lib.hid (HDOK.out d (List.mem_of_getElem? hd)); have HDK := Lib.hid hd; have HND := Lib.hid hneed; have HS3 := Lib.hid ((HS.out.alloc #[.slice An nn cn, .int .i64 d.on, .int .i64 d.off, .int .i64 d.flip] 144).pick [0, 1] (by decide) rfl rfl); clear p0 p1 p2 p3 hneed hd HS; obtain ⟨o, ho⟩ : ∃ o, deedDo d s = o := ⟨_, rfl⟩; have HO := Lib.hid ho; clear ho
     go_wp2_with fail
     refine (behindDeed_any An nn cn d s _ (HND.out.up HS3.out.below) HDO.out hs).mono ?_; rw [HO.out]; rintro e w3 ⟨rfl, hb3⟩; have HS4 := Lib.hid (HS3.out.quiet hb3); clear hb3 HS3 r0 r1 r2 r3
     cases o with
     | none =>
      have HM2 := Bx.mk ((mayN_none HDK.out HO.out).trans HM.out); simp only [opt]; go_wp2
      go_roundw
      case rel => exact ⟨k + 1, _, ys, by omega, by go_num, rfl, by omega, HM2, HS4.out⟩
      case measure => simp [intOf]; omega
     | some z =>
      have HM2 : Bx (mayN t.deeds s (k + 1) = ys ++ [(k : Int)]) := Bx.mk (by rw [mayN_some HDK.out HO.out, HM.out]); simp only [opt]; have HROW := Lib.hid (HS4.out.ownI 1 rfl)
      have HAP : Hid (∀ v3 w3', w3'.ownsRow 0 3 1 v3 (ys.length + 1) (ints ys ++ [Value.int .i64 (k : Int)]) → (w3.alloc (.cells #[.int .i64 (k : Int)] 3)).grownBy w3' x5.ownBlock → (v3.ownBlock = x5.ownBlock ∨ v3.ownBlock = some (w3.alloc (.cells #[.int .i64 (k : Int)] 3)).heap.size) →
        St w w3' [rBlk w.heap.size 26 #[.int .i64 t.start, .slice G gn gc, .slice (some ⟨b, off, none⟩) n' c'], rInts v3 (ys ++ [(k : Int)])]) :=
       Lib.hid fun v3 w3' h1 h2 h3 => St.appI (v := x5) (xs := ys) (ys := [(k : Int)]) ((HS4.out.alloc #[.int .i64 (k : Int)] 3).pick [0, 1] (by decide) rfl rfl) 1 rfl rfl h1 (by intro y hy; simp at hy; subst hy; exact wf_i64_mk (by omega)) h2 h3
      go_wp2_with (at_builtin; refine wp_app elInt rfl _ _ rfl 0 x5 ys.length (ints ys) rfl (HROW.out.alloc _) _ _ 1 1 [.int .i64 (k : Int)] rfl (RdRow.new w3 [.int .i64 (k : Int)] 3 1 1 rfl (by unfold maxLen; omega)) (by simp [Value.oneCell']) (by omega) (by omega) (Nat.zero_le _) ?_; intro v4 w4 hown4 hg4 hat4; have HS6 := Lib.hid (HAP.out v4 w4 hown4 hg4 hat4))
      go_wp2
      go_roundw
      case rel => exact ⟨k + 1, _, ys ++ [(k : Int)], by omega, by go_num, rfl, by simp; omega, HM2, HS6.out⟩
      case measure => simp [intOf]; omega
    ·obtain rfl : k = n' := by omega
     have HE : Bx (deedsMay t (s : Int) = ys) := Bx.mk (by rw [HY.out, HDL.out, HM.out]); go_wp2; go_ret; refine ⟨_, rfl, ?_⟩; rw [HE.out]; exact HS.out.pick [1] (by decide) rfl rfl
theorem deedDo_spec (A : Option Addr) (n c : Nat) (d : DeedD) (s : Int) (w : World) (h : RdI .i64 w w.heap.size A n c d.need) (hn40 : n ≤ 1099511627776) :
  Calls Tryz.prog 122 #[.agg #[.slice A n c, .int .i64 d.on, .int .i64 d.off, .int .i64 d.flip], .int .i64 s] w fun e w' => e = .returned (.int .i64 (deedDoR d s)) ∧ Below w.heap.size w w' := by
 have HS0 := Lib.hid ((St.refl w).alloc #[.slice A n c, .int .i64 d.on, .int .i64 d.off, .int .i64 d.flip] 144); have H := Lib.hid h; clear h; obtain ⟨bo, hok⟩ : ∃ b, deedOk d = b := ⟨_, rfl⟩; obtain ⟨bs, hs⟩ : ∃ b, stIn s = b := ⟨_, rfl⟩; have HV : deedOk d = false ∨ stIn s = false → deedDoR d s = -1 := fun h => if_neg (by rintro ⟨h1, h2⟩; rcases h with h | h <;> simp_all)
 have HOK := Bx.mk hok; have HS := Bx.mk hs; have HLI : Bx (decide (0 ≤ s ∧ s ≤ 31) = bs) := Bx.mk (by rw [← hs]; unfold stIn; congr 1; apply propext; omega)
 cases bo with
 | false =>
  have HV := Bx.mk (HV (.inl hok)); clear hok hs; go_enter Tryz.func122, Tryz.ntmps122
  go_wp2_with fail
  refine (deedValid_spec A n c d _ (H.out.up HS0.out.below) hn40).mono ?_; rw [HOK.out]; rintro e w1 ⟨rfl, hb1⟩; have HB := Lib.hid (HS0.out.quiet hb1).below; clear hb1; go_wp2; go_ret; exact ⟨ret_int HV.out.symm, HB.out⟩
 | true =>
  cases bs with
  | false =>
   have HV := Bx.mk (HV (.inr hs)); clear hok hs; go_enter Tryz.func122, Tryz.ntmps122
   go_wp2_with fail
   refine (deedValid_spec A n c d _ (H.out.up HS0.out.below) hn40).mono ?_; rw [HOK.out]; rintro e w1 ⟨rfl, hb1⟩; have HB := Lib.hid (HS0.out.quiet hb1).below; clear hb1
   go_wp2_with fail
   refine (l1In_any s 0 31 _).mono ?_; rw [HLI.out]; rintro e w2 ⟨rfl, rfl⟩; go_wp2; go_ret; exact ⟨ret_int HV.out.symm, HB.out⟩
  | true =>
   obtain ⟨h0, h1⟩ := (stIn_iff s).1 hs; obtain ⟨m, rfl⟩ := Int.eq_ofNat_of_zero_le h0; have hm : m < 32 := by omega
   have HV : Bx (deedDoR d (m : Int) = opt (deedDo d m)) := Bx.mk (by unfold deedDoR; rw [if_pos ⟨hok, hs⟩, Int.toNat_natCast]); clear hok hs h0 h1; go_enter Tryz.func122, Tryz.ntmps122
   go_wp2_with fail
   refine (deedValid_spec A n c d _ (H.out.up HS0.out.below) hn40).mono ?_; rw [HOK.out]; rintro e w1 ⟨rfl, hb1⟩; have HS1 := Lib.hid (HS0.out.quiet hb1); clear hb1
   go_wp2_with fail
   refine (l1In_any (m : Int) 0 31 _).mono ?_; rw [HLI.out]; rintro e w2 ⟨rfl, rfl⟩; have q1 := HS1.out.cells 0 rfl
   go_wp2_with fail
   refine (l6Do_any A n c d m _ (H.out.up HS1.out.below) HOK.out hm).mono ?_; rintro e w3 ⟨rfl, hb3⟩; have HB := Lib.hid (HS1.out.quiet hb3).below; clear hb3; go_wp2; go_ret; exact ⟨ret_int HV.out.symm, HB.out⟩
def mayZ (ds : List DeedD) (s : Int) (n : Nat) : List Int := if stIn s then mayN ds s.toNat n else []
theorem mayZ_none {ds : List DeedD} {s : Int} {k : Nat} {d : DeedD} (hd : ds[k]? = some d) (hok : deedOk d = true) (h : ¬ 0 ≤ deedDoR d s) : mayZ ds s (k + 1) = mayZ ds s k := by
 unfold mayZ
 by_cases hs : stIn s = true
 ·rw [if_pos hs, if_pos hs]
  unfold deedDoR at h
  rw [if_pos ⟨hok, hs⟩] at h
  cases ho : deedDo d s.toNat with
  | none => exact mayN_none hd ho
  | some z => rw [ho] at h; simp only [opt] at h; omega
 ·rw [if_neg hs, if_neg hs]
theorem mayZ_some {ds : List DeedD} {s : Int} {k : Nat} {d : DeedD} (hd : ds[k]? = some d) (h : 0 ≤ deedDoR d s) : mayZ ds s (k + 1) = mayZ ds s k ++ [((k : Nat) : Int)] := by
 unfold deedDoR at h
 by_cases hs : deedOk d = true ∧ stIn s = true
 ·unfold mayZ
  rw [if_pos hs.2, if_pos hs.2]; rw [if_pos hs] at h; obtain ⟨z, hz⟩ := opt_nonneg.1 h; exact mayN_some hd hz
 ·rw [if_neg hs] at h; omega
theorem deedsMay_mayZ (t : TaskD) (s : Int) (h : taskOk t = true) : deedsMay t s = mayZ t.deeds s t.deeds.length := by
 unfold deedsMay mayZ; rw [h, Bool.true_and]
set_option maxRecDepth 100000 in
set_option maxHeartbeats 1000000 in
theorem deedsMay_spec (v : Value) (t : TaskD) (s : Int) (w : World) (h : RdT w w.heap.size v t) :
  Calls Tryz.prog 55 #[v, .int .i64 s] w (Gives w id fun v => [rInts v (deedsMay t s)]) := by
 have h' := h; obtain ⟨G, gn, gc, G', n', c', rfl, hg, hgs, hds, hst⟩ := h; have HT := Lib.hid h'; have HDS := Lib.hid hds; have HDL := Lib.hid hds.len; have hcap := hds.cap; have hcm := hds.capMax
 unfold maxLen at hcm
 have HS0' : Hid (∀ g, g = w.heap.size + 1 → St w ((w.alloc (.cells #[.int .i64 t.start, .slice G gn gc, .slice G' n' c'] 26)).alloc (.cells #[] 3)) [rBlk w.heap.size 26 #[.int .i64 t.start, .slice G gn gc, .slice G' n' c'], rInts (.slice (some ⟨g, 0, none⟩) 0 0) []]) :=
  Lib.hid fun g hg => by subst hg; exact ((St.refl w).alloc #[.int .i64 t.start, .slice G gn gc, .slice G' n' c'] 26).call (St.newI _ _ (by simp))
 have HS0 := Lib.hid (HS0'.out _ rfl); clear HS0'; obtain ⟨bo, hok⟩ : ∃ b, taskOk t = b := ⟨_, rfl⟩; have HOK := Lib.hid hok; clear hok hds h' hg
 cases bo with
 | false =>
  have HN := Bx.mk (deedsMay_no t s (.inl HOK.out)); go_enter Tryz.func55, Tryz.ntmps55; go_wp2
  go_loopw [6, 5] (fun i ov wr => i = .int .i64 0 ∧ ov = .slice (some ⟨w.heap.size + 1, 0, none⟩) 0 0 ∧ St w wr [rBlk w.heap.size 26 #[.int .i64 t.start, .slice G gn gc, .slice G' n' c'], rInts (.slice (some ⟨w.heap.size + 1, 0, none⟩) 0 0) []]) (fun i _ _ => 0)
  case atStart => exact ⟨rfl, rfl, HS0.out⟩
  case round =>
   clear HS0; obtain ⟨rfl, rfl, S⟩ := hrel; have HS := Lib.hid S; have q0 := S.cells 0 rfl; clear S
   by_cases hn : n' = 0
   ·subst hn; go_wp2; go_ret; refine ⟨_, rfl, ?_⟩; rw [HN.out]; exact HS.out.pick [1] (by decide) rfl rfl
   ·have hn0 : (0 : Int) < (n' : Int) := by omega
    clear hn
    go_wp2_with fail
    refine (taskValid_spec _ t _ (HT.out.up HS.out.below)).mono ?_; rw [HOK.out]; rintro e w2 ⟨rfl, hb2⟩; have HS2 := Lib.hid (HS.out.quiet hb2); clear hb2 q0; go_wp2; go_ret; refine ⟨_, rfl, ?_⟩; rw [HN.out]; exact HS2.out.pick [1] (by decide) rfl rfl
 | true =>
  obtain ⟨-, -, hn6, hdok⟩ := taskOk_parts t HOK.out; have HDOK := Lib.hid hdok; have hn6' : n' ≤ 6 := by rw [← HDL.out]; exact hn6
  have HY := Bx.mk (deedsMay_mayZ t s HOK.out); clear hdok hn6; go_enter Tryz.func55, Tryz.ntmps55; go_wp2
  go_loopw [6, 5] (fun i ov wr => ∃ (k : Nat) (x5 : Value) (ys : List Int), k ≤ n' ∧ i = .int .i64 k ∧ x5 = ov ∧ ys.length ≤ k ∧ Bx (mayZ t.deeds s k = ys) ∧ St w wr [rBlk w.heap.size 26 #[.int .i64 t.start, .slice G gn gc, .slice G' n' c'], rInts x5 ys]) (fun i _ _ => n' - (intOf i).toNat)
  case atStart => exact ⟨0, _, [], by omega, rfl, rfl, by simp, Bx.mk (by unfold mayZ; split <;> rfl), HS0.out⟩
  case round =>
   clear HS0; obtain ⟨k, x5, ys, hk, rfl, rfl, hyl, HM, S⟩ := hrel; have HS := Lib.hid S; have q0 := S.cells 0 rfl; clear S
   by_cases hlt : k < n'
   ·have hlti : (k : Int) < (n' : Int) := by omega
    go_wp2_with fail
    refine (taskValid_spec _ t _ (HT.out.up HS.out.below)).mono ?_; rw [HOK.out]; rintro e w2 ⟨rfl, hb2⟩; have HS2 := Lib.hid (HS.out.quiet hb2); clear hb2 q0 HS; obtain ⟨b, off, d, rfl, hb, hd, hda⟩ := HDS.out.get hlt; obtain ⟨An, nn, cn, p0, p1, p2, p3, hneed, hnn, -⟩ := hda; have q2 := HS2.out.cells 0 rfl; have r0 : w2.cell? ⟨b, off + k * 4, none⟩ = some (.slice An nn cn) := (bcells HS2.out.below b _ hb).trans p0; have r1 : w2.cell? ⟨b, off + k * 4 + 1, none⟩ = some (.int .i64 d.on) := (bcells HS2.out.below b _ hb).trans p1; have r2 : w2.cell? ⟨b, off + k * 4 + 2, none⟩ = some (.int .i64 d.off) := (bcells HS2.out.below b _ hb).trans p2; have r3 : w2.cell? ⟨b, off + k * 4 + 3, none⟩ = some (.int .i64 d.flip) := (bcells HS2.out.below b _ hb).trans p3; have HDO := Lib.hid (HDOK.out d (List.mem_of_getElem? hd)); have HDK := Lib.hid hd; have HND := Lib.hid hneed; clear p0 p1 p2 p3 hneed hd; obtain ⟨z, hz⟩ : ∃ z, deedDoR d s = z := ⟨_, rfl⟩; have HZ := Lib.hid hz; clear hz
    go_wp2_with fail
    refine (deedDo_spec An nn cn d s _ (HND.out.up HS2.out.below) (by omega)).mono ?_; rw [HZ.out]; rintro e w3 ⟨rfl, hb3⟩; have HS4 := Lib.hid (HS2.out.quiet hb3); clear hb3 HS2 r0 r1 r2 r3 q2
    by_cases hz : 0 ≤ z
    ·have HM2 : Bx (mayZ t.deeds s (k + 1) = ys ++ [(k : Int)]) := Bx.mk (by rw [mayZ_some HDK.out (by rw [HZ.out]; exact hz), HM.out]); have HROW := Lib.hid (HS4.out.ownI 1 rfl)
     have HAP : Hid (∀ v3 w3', w3'.ownsRow 0 3 1 v3 (ys.length + 1) (ints ys ++ [Value.int .i64 (k : Int)]) → (w3.alloc (.cells #[.int .i64 (k : Int)] 3)).grownBy w3' x5.ownBlock → (v3.ownBlock = x5.ownBlock ∨ v3.ownBlock = some (w3.alloc (.cells #[.int .i64 (k : Int)] 3)).heap.size) →
       St w w3' [rBlk w.heap.size 26 #[.int .i64 t.start, .slice G gn gc, .slice (some ⟨b, off, none⟩) n' c'], rInts v3 (ys ++ [(k : Int)])]) :=
      Lib.hid fun v3 w3' h1 h2 h3 => St.appI (v := x5) (xs := ys) (ys := [(k : Int)]) ((HS4.out.alloc #[.int .i64 (k : Int)] 3).pick [0, 1] (by decide) rfl rfl) 1 rfl rfl h1 (by intro y hy; simp at hy; subst hy; exact wf_i64_mk (by omega)) h2 h3
     go_wp2_with (at_builtin; refine wp_app elInt rfl _ _ rfl 0 x5 ys.length (ints ys) rfl (HROW.out.alloc _) _ _ 1 1 [.int .i64 (k : Int)] rfl (RdRow.new w3 [.int .i64 (k : Int)] 3 1 1 rfl (by unfold maxLen; omega)) (by simp [Value.oneCell']) (by omega) (by omega) (Nat.zero_le _) ?_; intro v4 w4 hown4 hg4 hat4; have HS6 := Lib.hid (HAP.out v4 w4 hown4 hg4 hat4))
     go_wp2
     go_roundw
     case rel => exact ⟨k + 1, _, ys ++ [(k : Int)], by omega, by go_num, rfl, by simp; omega, HM2, HS6.out⟩
     case measure => simp [intOf]; omega
    ·have HM2 := Bx.mk ((mayZ_none HDK.out HDO.out (by rw [HZ.out]; exact hz)).trans HM.out); go_wp2
     go_roundw
     case rel => exact ⟨k + 1, _, ys, by omega, by go_num, rfl, by omega, HM2, HS4.out⟩
     case measure => simp [intOf]; omega
   ·obtain rfl : k = n' := by omega
    have HE : Bx (deedsMay t s = ys) := Bx.mk (by rw [HY.out, HDL.out, HM.out]); go_wp2; go_ret; refine ⟨_, rfl, ?_⟩; rw [HE.out]; exact HS.out.pick [1] (by decide) rfl rfl
end Go.Proofs.YtkmcengmglgdeaaGreatDoor
