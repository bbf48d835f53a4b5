/- Joined texts: NumOkS, Most, ShadI. -/
import Derived.Test.YtkimgdfcgfhibaaDoorSNumL
import Derived.Test.YtkimgdfcgfhibaaDoorSReach
import Derived.Test.YtkimgdfcgfhibaaDoorSCount
import Derived.Test.YtkimgdfcgfhibaaDoorSTDraw
import Derived.Test.YtkimgdfcgfhibaaDoorSStepsOn
/- NumbersOk and NumbersFor of the reference. -/
namespace Go.Proofs.YtkimgdfcgfhibaaDoor
set_option linter.unusedVariables false
set_option linter.unusedSimpArgs false
open Go.ChangeShapes Go.WideShapes Go.ChangeAt Go.RowKit
set_option maxRecDepth 100000 in
set_option maxHeartbeats 2000000 in
theorem numbersOk_spec (v : Value) (t : TaskD) (A : Option Addr) (n c : Nat) (xs : List Int) (w : World) (h : RdT w w.heap.size v t) (hx : RdI .i64 w w.heap.size A n c xs) :
    Calls Tryd.prog 26 #[v, .slice A n c] w fun e w' => e = .returned (.bool (numsOk t xs)) ∧ Below w.heap.size w w' := by
  have h' := h
  obtain ⟨G, gn, gc, G', n', c', rfl, hg, hgs, hds, hst⟩ := h
  have S0 := (St.refl w).alloc #[.int .i64 t.start, .slice G gn gc, .slice G' n' c'] 26
  have HT := Lib.hid (h'.up S0.below)
  have HS0 := Lib.hid S0
  have HDL := Lib.hid hds.len
  have HDS := Lib.hid hds
  have HG := Lib.hid hg
  obtain ⟨bo, hok⟩ : ∃ b, taskOk t = b := ⟨_, rfl⟩
  have HOK := Lib.hid hok
  clear S0 h' hok hg
  cases bo with
  | false =>
    have HN := Bx.mk (numsOk_task (xs := xs) HOK.out)
    go_enter Tryd.func26, Tryd.ntmps26
    go_wp2_with fail
    refine (taskValid_spec _ t _ HT.out).mono ?_
    rw [HOK.out]
    rintro e w1 ⟨rfl, hb1⟩
    have HB := Lib.hid (HS0.out.quiet hb1).below
    clear hb1
    go_wp2
    go_ret
    exact ⟨by rw [HN.out]; rfl, HB.out⟩
  | true =>
    obtain ⟨-, hgok, hn6, hdok⟩ := taskOk_parts t HOK.out
    have HDOK := Lib.hid hdok
    have HGOK := Lib.hid hgok
    have hn6' : n' ≤ 6 := by rw [← hds.len]; exact hn6
    clear hn6 hdok hgok hds
    by_cases hlen : n = 32
    case neg =>
      have HN := Bx.mk (numsOk_len (t := t) (xs := xs) (by rw [hx.len]; exact hlen))
      have hnI : ((n : Int) == 32) = false := beq_false_of_ne (by omega)
      have hnJ : ((n : Int) ≠ 32) := by omega
      go_enter Tryd.func26, Tryd.ntmps26
      go_wp2_with fail
      refine (taskValid_spec _ t _ HT.out).mono ?_
      rw [HOK.out]
      rintro e w1 ⟨rfl, hb1⟩
      have HB := Lib.hid (HS0.out.quiet hb1).below
      clear hb1
      go_wp2
      go_ret
      exact ⟨by rw [HN.out]; rfl, HB.out⟩
    subst hlen
    have hl32 := hx.len
    obtain ⟨xb, xo, rfl, hxb, hxc⟩ := hx.x32
    have HXC := Bx.mk hxc
    have HL := Bx.mk hl32
    clear hx hxc hl32
    go_enter Tryd.func26, Tryd.ntmps26
    go_wp2_with fail
    refine (taskValid_spec _ t _ HT.out).mono ?_
    rw [HOK.out]
    rintro e w1 ⟨rfl, hb1⟩
    have HS1 := Lib.hid (HS0.out.quiet hb1)
    clear hb1 HS0
    go_wp2
    go_loopw [5] (fun i wr => ∃ m : Nat, m ≤ 32 ∧ i = .int .i64 m ∧ Bx (rowsTo t xs m) ∧ St w wr [rBlk w.heap.size 26 #[.int .i64 t.start, .slice G gn gc, .slice G' n' c']]) (fun i _ => 32 - (intOf i).toNat)
    case atStart => exact ⟨0, by omega, rfl, Bx.mk (rowsTo_zero _ _), HS1.out⟩
    case round =>
      clear HS1
      obtain ⟨m, hm, rfl, HR, MM⟩ := hrel
      have q0 : ∀ j, wr.cell? ⟨w.heap.size, j, none⟩ = _ := MM.cells 0 rfl
      have HM := Lib.hid MM
      clear MM
      by_cases hlt : m < 32
      · obtain ⟨x, hxv⟩ : ∃ x, xv xs m = x := ⟨_, rfl⟩
        have HX := Bx.mk hxv
        have rx : wr.cell? ⟨xb, xo + m, none⟩ = some (.int .i64 x) := (bcells HM.out.below xb _ hxb).trans (by rw [← hxv]; exact (HXC.out m hlt).2)
        have hxw := wf_i64 (by rw [← hxv]; exact (HXC.out m hlt).1 : (Lit.int .i64 x).wf = true)
        clear hxv
        by_cases hbd : 0 ≤ x ∧ x ≤ 40
        case neg =>
          have HF := Bx.mk (numsOk_row hlt (numRow_bd (t := t) (by rw [HX.out]; exact hbd)))
          go_wp2_with fail
          refine (l1In_no x 0 40 _ hbd).mono ?_
          rintro e w2 ⟨rfl, rfl⟩
          go_wp2
          go_ret
          exact ⟨by rw [HF.out]; rfl, HM.out.below⟩
        go_wp2_with fail
        refine (l1In_yes x 0 40 _ hbd.1 hbd.2).mono ?_
        rintro e w2 ⟨rfl, rfl⟩
        obtain ⟨gb, hgb⟩ : ∃ b, evalCode t.goal m = b := ⟨_, rfl⟩
        have HGB := Bx.mk hgb
        clear hgb
        go_wp2_with fail
        refine (l5Run_any G gn gc t.goal m _ (HG.out.up HM.out.below) HGOK.out hlt).mono ?_
        rw [HGB.out]
        rintro e w3 ⟨rfl, hb3⟩
        have HM3 := Lib.hid (HM.out.quiet hb3)
        clear q0 rx HM
        have rx : w3.cell? ⟨xb, xo + m, none⟩ = some (.int .i64 x) := (bcells HM3.out.below xb _ hxb).trans (by rw [← HX.out]; exact (HXC.out m hlt).2)
        clear hb3
        by_cases hgx : gb = true ∧ x ≠ 0
        case pos =>
          obtain ⟨rfl, hx0⟩ := hgx
          have HF := Bx.mk (numsOk_row hlt (numRow_goal HGB.out (by rw [HX.out]; exact hx0)))
          have hxe : (x == 0) = false := beq_false_of_ne hx0
          clear hx0
          go_wp2
          go_ret
          exact ⟨by rw [HF.out]; rfl, HM3.out.below⟩
        have HGX : Bx (evalCode t.goal m = true → xv xs m = 0) := Bx.mk (by
          intro hg1
          rw [HGB.out] at hg1
          rw [HX.out]
          exact Classical.byContradiction fun hx0 => hgx ⟨hg1, hx0⟩)
        have HBD : Bx (0 ≤ xv xs m ∧ xv xs m ≤ 40) := Bx.mk (by rw [HX.out]; exact hbd)
        have hxs : gb = true → x = 0 := fun e => Classical.byContradiction fun hx0 => hgx ⟨e, hx0⟩
        clear hgx
        cases gb with
        | false =>
          go_wp2
          go_loopw [6] (fun i wr => ∃ k : Nat, k ≤ n' ∧ i = .int .i64 k ∧ Bx (rowTo t.deeds xs m k) ∧ St w wr [rBlk w.heap.size 26 #[.int .i64 t.start, .slice G gn gc, .slice G' n' c']]) (fun i _ => n' - (intOf i).toNat)
          case atStart => exact ⟨0, by omega, rfl, Bx.mk (rowTo_zero _ _ _), HM3.out⟩
          case round =>
            clear HM3
            obtain ⟨k, hk, rfl, HRT, MM⟩ := hrel
            have q0 : ∀ j, wr.cell? ⟨w.heap.size, j, none⟩ = _ := MM.cells 0 rfl
            have HMM := Lib.hid MM
            clear MM
            by_cases hkn : k < n'
            · obtain ⟨b, off, d, rfl, hb, hd, hda⟩ := HDS.out.get hkn
              obtain ⟨An, nn, cn, p0, p1, p2, p3, hneed, hnn, -⟩ := hda
              have r0 : wr.cell? ⟨b, off + k * 4, none⟩ = some (.slice An nn cn) := (bcells HMM.out.below b _ hb).trans p0
              have r1 : wr.cell? ⟨b, off + k * 4 + 1, none⟩ = some (.int .i64 d.on) := (bcells HMM.out.below b _ hb).trans p1
              have r2 : wr.cell? ⟨b, off + k * 4 + 2, none⟩ = some (.int .i64 d.off) := (bcells HMM.out.below b _ hb).trans p2
              have r3 : wr.cell? ⟨b, off + k * 4 + 3, none⟩ = some (.int .i64 d.flip) := (bcells HMM.out.below b _ hb).trans p3
              have HDK := Lib.hid (HDOK.out d (List.mem_of_getElem? hd))
              have HD0 := Lib.hid hd
              have HND := Lib.hid hneed
              obtain ⟨o, ho⟩ : ∃ o, deedDo d m = o := ⟨_, rfl⟩
              have HO := Lib.hid ho
              clear p0 p1 p2 p3 hneed hd ho
              go_wp2_with fail
              refine (l6Do_any An nn cn d m _ (HND.out.up HMM.out.below) HDK.out hlt).mono ?_
              rw [HO.out]
              rintro e w4 ⟨rfl, hb4⟩
              have HM4 := Lib.hid (HMM.out.quiet hb4)
              clear hb4 q0 r0 r1 r2 r3 HMM
              cases o with
              | none =>
                have HR2 := Bx.mk (rowTo_none HRT.out HD0.out HO.out)
                simp only [opt]
                go_upto_region 12 with (fail)
                go_quiet (fail)
                have HM5 := Lib.hid (HM4.out.drewN nq)
                go_wp2
                go_roundw
                case rel => exact ⟨k + 1, by omega, by go_num, HR2, HM5.out⟩
                case measure => simp [intOf]; omega
              | some q =>
                have hq := deedDo_lt d m q HDK.out hlt HO.out
                obtain ⟨y, hyv⟩ : ∃ y, xv xs q = y := ⟨_, rfl⟩
                have HY := Bx.mk hyv
                have rx : w4.cell? ⟨xb, xo + m, none⟩ = some (.int .i64 x) := (bcells HM4.out.below xb _ hxb).trans (by rw [← HX.out]; exact (HXC.out m hlt).2)
                have ry : w4.cell? ⟨xb, xo + q, none⟩ = some (.int .i64 y) := (bcells HM4.out.below xb _ hxb).trans (by rw [← hyv]; exact (HXC.out q hq).2)
                have hyw := wf_i64 (by rw [← hyv]; exact (HXC.out q hq).1 : (Lit.int .i64 y).wf = true)
                have hsk : IntKind.i64.wrap (x - 1) = x - 1 := IntWalk.i64_in _ (by omega)
                clear hyv
                simp only [opt]
                by_cases hyx : y < x - 1
                case pos =>
                  have HF := Bx.mk (numsOk_row (xs := xs) hlt (numRow_deed HD0.out HO.out (by rw [HX.out, HY.out]; exact hyx)))
                  have hdy : decide (y < x - 1) = true := decide_eq_true hyx
                  go_upto_region 12 with (fail)
                  go_quiet (fail)
                  have HM5 := Lib.hid (HM4.out.drewN nq)
                  go_wp2
                  go_ret
                  exact ⟨by rw [HF.out]; rfl, HM5.out.below⟩
                case neg =>
                  have HR2 := Bx.mk (rowTo_some HRT.out HD0.out HO.out (by rw [HX.out, HY.out]; exact hyx))
                  have hdy : decide (y < x - 1) = false := decide_eq_false hyx
                  go_upto_region 12 with (fail)
                  go_quiet (fail)
                  have HM5 := Lib.hid (HM4.out.drewN nq)
                  go_wp2
                  go_roundw
                  case rel => exact ⟨k + 1, by omega, by go_num, HR2, HM5.out⟩
                  case measure => simp [intOf]; omega
            · have hkn2 : k = n' := by omega
              have HR2 := Bx.mk (rowsTo_next HR.out (numRow_yes HBD.out HGX.out (by rw [HDL.out, ← hkn2]; exact HRT.out)))
              clear hkn2
              go_wp2
              go_roundw
              case rel => exact ⟨m + 1, by omega, by go_num, HR2, HMM.out⟩
              case measure => simp [intOf]; omega
        | true =>
          obtain rfl : x = 0 := hxs rfl
          go_wp2
          go_loopw [6] (fun i wr => ∃ k : Nat, k ≤ n' ∧ i = .int .i64 k ∧ Bx (rowTo t.deeds xs m k) ∧ St w wr [rBlk w.heap.size 26 #[.int .i64 t.start, .slice G gn gc, .slice G' n' c']]) (fun i _ => n' - (intOf i).toNat)
          case atStart => exact ⟨0, by omega, rfl, Bx.mk (rowTo_zero _ _ _), HM3.out⟩
          case round =>
            clear HM3
            obtain ⟨k, hk, rfl, HRT, MM⟩ := hrel
            have q0 : ∀ j, wr.cell? ⟨w.heap.size, j, none⟩ = _ := MM.cells 0 rfl
            have HMM := Lib.hid MM
            clear MM
            by_cases hkn : k < n'
            · obtain ⟨b, off, d, rfl, hb, hd, hda⟩ := HDS.out.get hkn
              obtain ⟨An, nn, cn, p0, p1, p2, p3, hneed, hnn, -⟩ := hda
              have r0 : wr.cell? ⟨b, off + k * 4, none⟩ = some (.slice An nn cn) := (bcells HMM.out.below b _ hb).trans p0
              have r1 : wr.cell? ⟨b, off + k * 4 + 1, none⟩ = some (.int .i64 d.on) := (bcells HMM.out.below b _ hb).trans p1
              have r2 : wr.cell? ⟨b, off + k * 4 + 2, none⟩ = some (.int .i64 d.off) := (bcells HMM.out.below b _ hb).trans p2
              have r3 : wr.cell? ⟨b, off + k * 4 + 3, none⟩ = some (.int .i64 d.flip) := (bcells HMM.out.below b _ hb).trans p3
              have HDK := Lib.hid (HDOK.out d (List.mem_of_getElem? hd))
              have HD0 := Lib.hid hd
              have HND := Lib.hid hneed
              obtain ⟨o, ho⟩ : ∃ o, deedDo d m = o := ⟨_, rfl⟩
              have HO := Lib.hid ho
              clear p0 p1 p2 p3 hneed hd ho
              go_wp2_with fail
              refine (l6Do_any An nn cn d m _ (HND.out.up HMM.out.below) HDK.out hlt).mono ?_
              rw [HO.out]
              rintro e w4 ⟨rfl, hb4⟩
              have HM4 := Lib.hid (HMM.out.quiet hb4)
              clear hb4 q0 r0 r1 r2 r3 HMM
              cases o with
              | none =>
                have HR2 := Bx.mk (rowTo_none HRT.out HD0.out HO.out)
                simp only [opt]
                go_upto_region 12 with (fail)
                go_quiet (fail)
                have HM5 := Lib.hid (HM4.out.drewN nq)
                go_wp2
                go_roundw
                case rel => exact ⟨k + 1, by omega, by go_num, HR2, HM5.out⟩
                case measure => simp [intOf]; omega
              | some q =>
                have hq := deedDo_lt d m q HDK.out hlt HO.out
                obtain ⟨y, hyv⟩ : ∃ y, xv xs q = y := ⟨_, rfl⟩
                have HY := Bx.mk hyv
                have rx : w4.cell? ⟨xb, xo + m, none⟩ = some (.int .i64 0) := (bcells HM4.out.below xb _ hxb).trans (by rw [← HX.out]; exact (HXC.out m hlt).2)
                have ry : w4.cell? ⟨xb, xo + q, none⟩ = some (.int .i64 y) := (bcells HM4.out.below xb _ hxb).trans (by rw [← hyv]; exact (HXC.out q hq).2)
                have hyw := wf_i64 (by rw [← hyv]; exact (HXC.out q hq).1 : (Lit.int .i64 y).wf = true)
                have hsk : IntKind.i64.wrap (0 - 1) = 0 - 1 := IntWalk.i64_in _ (by omega)
                clear hyv
                simp only [opt]
                by_cases hyx : y < 0 - 1
                case pos =>
                  have HF := Bx.mk (numsOk_row (xs := xs) hlt (numRow_deed HD0.out HO.out (by rw [HX.out, HY.out]; exact hyx)))
                  have hdy : decide (y < 0 - 1) = true := decide_eq_true hyx
                  go_upto_region 12 with (fail)
                  go_quiet (fail)
                  have HM5 := Lib.hid (HM4.out.drewN nq)
                  go_wp2
                  go_ret
                  exact ⟨by rw [HF.out]; rfl, HM5.out.below⟩
                case neg =>
                  have HR2 := Bx.mk (rowTo_some HRT.out HD0.out HO.out (by rw [HX.out, HY.out]; exact hyx))
                  have hdy : decide (y < 0 - 1) = false := decide_eq_false hyx
                  go_upto_region 12 with (fail)
                  go_quiet (fail)
                  have HM5 := Lib.hid (HM4.out.drewN nq)
                  go_wp2
                  go_roundw
                  case rel => exact ⟨k + 1, by omega, by go_num, HR2, HM5.out⟩
                  case measure => simp [intOf]; omega
            · have hkn2 : k = n' := by omega
              have HR2 := Bx.mk (rowsTo_next HR.out (numRow_yes HBD.out HGX.out (by rw [HDL.out, ← hkn2]; exact HRT.out)))
              clear hkn2
              go_wp2
              go_roundw
              case rel => exact ⟨m + 1, by omega, by go_num, HR2, HMM.out⟩
              case measure => simp [intOf]; omega
      · obtain rfl : m = 32 := by omega
        have HF := Bx.mk (numsOk_all HOK.out HL.out fun s hs => HR.out s hs)
        go_wp2
        go_ret
        exact ⟨by rw [HF.out]; rfl, HM.out.below⟩
end Go.Proofs.YtkimgdfcgfhibaaDoor

/- mostForNone, NumbersFor of the program. -/
namespace Go.Proofs.YtkimgdfcgfhibaaDoor
set_option linter.unusedVariables false
set_option linter.unusedSimpArgs false
open Go.ChangeShapes Go.WideShapes Go.ChangeAt Go.RowKit

theorem up40_intsF (f : Nat → Int) : up40 (intsF f) = intsF fun s => fixV (f s) := by
  unfold intsF; rw [up40_map, List.map_map]; rfl
end Go.Proofs.YtkimgdfcgfhibaaDoor

/- ShadowSteps and ShadowNumbers of the program. Printed by gen_shadi.py. -/
namespace Go.Proofs.YtkimgdfcgfhibaaDoor
set_option linter.unusedVariables false
set_option linter.unusedSimpArgs false
open Go.ChangeShapes Go.WideShapes Go.ChangeAt Go.RowKit

/-- what is new -/
def freshS (ds : List DeedD) (F : Nat) (p : Nat → Bool) (m : Nat) : Nat → Bool := fun s => agr F (backP ds (shl ds F p m)) s && !shl ds F p m s
theorem shadL_task {t : TaskD} {F : Int} (h : taskOk t = false) : shadL t F = [] := by unfold shadL; rw [if_neg (by rw [h]; simp)]
theorem shadL_facts {t : TaskD} {F : Int} (h : stIn F = false) : shadL t F = [] := by unfold shadL; rw [if_neg (by rw [h]; simp)]
theorem shadL_yes {t : TaskD} {f : Nat} (h : taskOk t = true) (hf : stIn (f : Int) = true) : shadL t f = (List.range 32).map (shV t.deeds f (evalCode t.goal)) := by unfold shadL; rw [if_pos ⟨h, hf⟩, Int.toNat_natCast]
end Go.Proofs.YtkimgdfcgfhibaaDoor
