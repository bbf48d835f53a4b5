/- The draws of FnMustLook and FnLookFor: l20Hard, l20Numbered. Printed by gen_hard.py. -/
import Derived.Test.YtkimgdfcgfhibaaDoorSShadS
import Derived.Test.YtkimgdfcgfhibaaDoorSNumOkI
import Derived.Test.YtkimgdfcgfhibaaDoorSFrom
import Derived.Test.YtkimgdfcgfhibaaDoorSBits
import Derived.Test.YtkimgdfcgfhibaaDoorSLaid
import Derived.Test.YtkimgdfcgfhibaaDoorSSplit
namespace Go.Proofs.YtkimgdfcgfhibaaDoor
set_option linter.unusedVariables false
set_option linter.unusedSimpArgs false
open Go.ChangeShapes Go.WideShapes Go.ChangeAt Go.RowKit

def flipV (x y : Nat) : Int := ([3, 5, 6, 12, 24, 10, 15, 1 + (x : Int)] : List Int).getD y 0
theorem flipV_at (x y : Nat) (hy : y < 8) : (#[.int .i64 3, .int .i64 5, .int .i64 6, .int .i64 12, .int .i64 24, .int .i64 10, .int .i64 15, .int .i64 (1 + (x : Int))] : Array Value)[y]? = some (.int .i64 (flipV x y)) := by
  match y, hy with
  | 0, _ => rfl
  | 1, _ => rfl
  | 2, _ => rfl
  | 3, _ => rfl
  | 4, _ => rfl
  | 5, _ => rfl
  | 6, _ => rfl
  | 7, _ => rfl
theorem flipV_wf {x y : Nat} (hx : x < 31) (hy : y < 8) : (Lit.int .i64 (flipV x y)).wf = true := by
  have : 0 ≤ flipV x y ∧ flipV x y ≤ 40 := by
    match y, hy with
    | 0, _ => simp [flipV]
    | 1, _ => simp [flipV]
    | 2, _ => simp [flipV]
    | 3, _ => simp [flipV]
    | 4, _ => simp [flipV]
    | 5, _ => simp [flipV]
    | 6, _ => simp [flipV]
    | 7, _ => simp [flipV]; omega
  exact wf_i64_mk (by omega)
set_option maxRecDepth 100000 in
set_option maxHeartbeats 2000000 in
theorem l20Hard_rd {w W : World} {g hi : Nat} {X : HRes} (S : St w W [rRd w g hi, X]) (hh0 : hi ≤ 100000000000) (n : Int) :
    Calls Tryd.prog 82 #[.pointer (some ⟨g, 0, none⟩), .int .i64 n] W fun e w' => ∃ v t, e = .returned v ∧ St w w' [rRd w g (hi + 400), rTask v t, X] := by
  obtain ⟨r, hr⟩ : ∃ r, W.heap.size = r := ⟨_, rfl⟩
  have HS0 : Hid (St w (W.alloc (.cells #[.int .i64 0, .slice none 0 0, .slice none 0 0] 26)) [rRd w g hi, rBlk r 26 #[.int .i64 0, .slice none 0 0, .slice none 0 0], X]) := Lib.hid (by rw [← hr]; exact S.alloc1 _ _)
  clear S
  go_enter Tryd.func82, Tryd.ntmps82
  go_wp2_with fail
  refine (l20Task_rd HS0.out (by omega) n).mono ?_
  rintro e w1 ⟨v1, t, rfl, ht, s1⟩
  obtain ⟨A1, j1, c1, A2, j2, c2, hv⟩ := s1.formT 1 rfl
  subst hv
  obtain ⟨htg, htd, hts, -⟩ := ht
  obtain ⟨T, hT⟩ : ∃ T, w1.heap.size = T := ⟨_, rfl⟩
  obtain ⟨st, hst⟩ : ∃ st, t.start = st := ⟨_, rfl⟩
  obtain ⟨goal, hgoal⟩ : ∃ goal, t.goal = goal := ⟨_, rfl⟩
  obtain ⟨ds, hds⟩ : ∃ ds, t.deeds = ds := ⟨_, rfl⟩
  obtain ⟨m, hm⟩ : ∃ m, ds.length = m := ⟨_, rfl⟩
  rw [hst] at s1 hts
  have s2 := (s1.bring 1 rfl).untask
  rw [hgoal, hds] at s2
  obtain ⟨A3, c3, hdv, -⟩ := s2.rdDs 1 rfl
  rw [hm] at hdv
  simp only [Value.slice.injEq] at hdv
  obtain rfl : m = j2 := hdv.2.1.symm
  clear hdv
  have HS1 : Hid (St w (w1.alloc (.cells #[.int .i64 st, .slice A1 j1 c1, .slice A2 m c2] 26)) [rRd w g (hi + 200), rDeeds (.slice A2 m c2) ds, rInts (.slice A1 j1 c1) goal, rBlk T 26 #[.int .i64 st, .slice A1 j1 c1, .slice A2 m c2], rBlk r 26 #[.int .i64 0, .slice none 0 0, .slice none 0 0], X]) := Lib.hid (by
    rw [← hT]
    exact (s2.alloc #[.int .i64 st, .slice A1 j1 c1, .slice A2 m c2] 26).pick [2, 1, 0, 5, 3, 4] (by decide) rfl rfl)
  have HDL0 := Lib.hid hm
  have HGL : Hid (goal.length ≤ 6) := Lib.hid (by rw [← hgoal]; exact htg)
  have HWS : Hid ((Lit.int .i64 st).wf = true) := Lib.hid (wf_i64_mk (by omega))
  have hm7 : m ≤ 7 := by rw [← hm, ← hds]; exact htd
  rw [hst]
  try rw [hr]
  clear s1 s2 hgoal hds hm hst htg htd HS0
  go_wp2_with fail
  try rw [hT]
  refine (pick_rd HS1.out (by omega) 2).mono ?_
  rintro e w2 ⟨x2, rfl, ⟨p1, p2, -⟩, s2⟩
  have p3 := p2 (by omega)
  have HS2 := Lib.hid (s2.more (hi' := hi + 201) (by omega))
  clear s2 p2 HS1 hT hr
  go_upto_if 14 with (fail)
  go_cut [6] (fun s6 wx => ∃ ds', ds'.length = m ∧ St w wx [rRd w g (hi + 220), rDeeds (.slice A2 m c2) ds', rInts (.slice A1 j1 c1) goal, rBlk T 26 #[.int .i64 st, .slice A1 j1 c1, .slice A2 m c2], rBlk r 26 #[.int .i64 0, .slice none 0 0, .slice none 0 0], X])
  case first =>
    by_cases h2 : x2 = 0
    · subst h2
      go_wp2
      go_loopw [6] (fun kv wr => ∃ (k : Nat) (ds : List DeedD), k ≤ m ∧ kv = .int .i64 k ∧ Hid (ds.length = m) ∧ St w wr [rRd w g (hi + 201 + 2 * k), rDeeds (.slice A2 m c2) ds, rInts (.slice A1 j1 c1) goal, rBlk T 26 #[.int .i64 st, .slice A1 j1 c1, .slice A2 m c2], rBlk r 26 #[.int .i64 0, .slice none 0 0, .slice none 0 0], X]) (fun kv _ => m - (intOf kv).toNat)
      case atStart => exact ⟨0, ds, by omega, rfl, HDL0, HS2.out⟩
      case round =>
        clear HS2 HDL0
        obtain ⟨k, ds, hk, rfl, HDL, S⟩ := hrel
        have HS := Lib.hid S
        have qT : ∀ j, wr.cell? ⟨T, j, none⟩ = _ := S.cells 3 rfl
        clear S
        by_cases hlt : k < m
        · obtain ⟨gd, cd, d, A9, n9, c9', hdv, hcap, hmax, hdk, q0, q1, q2, q3, fz, hwfd, -⟩ := HS.out.deedAt 1 rfl (k := k) (by rw [HDL.out]; exact hlt)
          rw [HDL.out] at hdv hcap
          simp only [Value.slice.injEq, true_and] at hdv
          obtain ⟨rfl, rfl⟩ := hdv
          unfold maxLen at hmax
          have HDK := Lib.hid hdk
          have HWFD := Lib.hid hwfd
          have HTK : Hid (RdT wr wr.heap.size (.agg #[.int .i64 st, .slice A1 j1 c1, .slice (some ⟨gd, 0, none⟩) m c2]) ⟨st, goal, ds⟩) := Lib.hid (((HS.out.pick [2, 1] (by decide) rfl rfl).task (by have := HGL.out; omega) HWS.out).rdT 0 rfl)
          obtain ⟨tb, htb⟩ : ∃ b, taskOk ⟨st, goal, ds⟩ = b := ⟨_, rfl⟩
          clear hdk hwfd q0 q1 q2 q3 fz
          go_wp2_with fail
          refine (taskValid_spec _ ⟨st, goal, ds⟩ _ HTK.out).mono ?_
          rw [htb]
          rintro e w3 ⟨rfl, hb3⟩
          have HS3 := Lib.hid (HS.out.quiet hb3)
          clear hb3 HS HTK htb qT
          have qT : ∀ j, w3.cell? ⟨T, j, none⟩ = _ := HS3.out.cells 3 rfl
          cases tb with
          | false =>
            go_wp2
            go_meet
            case rel => exact ⟨ds, HDL.out, HS3.out.more (by omega)⟩
          | true =>
            have S4 : St w (w3.alloc (.cells #[.int .i64 5] 3)) [rDeeds (.slice (some ⟨gd, 0, none⟩) m c2) ds, rInts (.slice (some ⟨w3.heap.size, 0, none⟩) 1 1) [5], rRd w g (hi + 201 + 2 * k), rInts (.slice A1 j1 c1) goal, rBlk T 26 #[.int .i64 st, .slice A1 j1 c1, .slice (some ⟨gd, 0, none⟩) m c2], rBlk r 26 #[.int .i64 0, .slice none 0 0, .slice none 0 0], X] := (HS3.out.bring 1 rfl).call1 (St.lit w3 [5] 1 rfl (by simp) (Dig.one (by omega) (by omega)).wf)
            obtain ⟨gd', cd', d', A8, n8, c8', hv', -, -, hdk', q0, q1, q2, q3, fz, -, -⟩ := S4.deedAt 0 rfl (k := k) (by rw [HDL.out]; exact hlt)
            simp only [Value.slice.injEq, Option.some.injEq, Addr.mk.injEq, and_true] at hv'
            obtain ⟨rfl, -, rfl⟩ := hv'
            have q5 : ∀ j, (w3.alloc (.cells #[.int .i64 5] 3)).cell? ⟨T, j, none⟩ = _ := S4.cells 4 rfl
            have HS4 := Lib.hid (S4.putN (i := k) HDL.out HDK.out (by simp))
            have hki : (k : Int) < (m : Int) := by omega
            have HKI := Lib.hid hki
            have f0 := fz (k * 4)
            clear S4 hdk'
            go_upto_region 7 with (fail)
            obtain ⟨w4, hw4⟩ : ∃ x, ((w3.alloc (.cells #[.int .i64 5] 3)).setCell ⟨gd, k * 4, none⟩ (.slice (some ⟨w3.heap.size, 0, none⟩) 1 1)) = x := ⟨_, rfl⟩
            have HS5 : Hid (St w w4 [rDeeds (.slice (some ⟨gd, 0, none⟩) m c2) (ds.set k ⟨[5], d.on, d.off, d.flip⟩), rRd w g (hi + 201 + 2 * k), rInts (.slice A1 j1 c1) goal, rBlk T 26 #[.int .i64 st, .slice A1 j1 c1, .slice (some ⟨gd, 0, none⟩) m c2], rBlk r 26 #[.int .i64 0, .slice none 0 0, .slice none 0 0], X]) := Lib.hid (by rw [← hw4]; exact HS4.out)
            rw [hw4]
            clear HS4 hw4 q0 q1 q2 q3 fz f0 q5 HS3 qT
            have qT : ∀ j, w4.cell? ⟨T, j, none⟩ = _ := HS5.out.cells 3 rfl
            have HDK5 : Hid ((ds.set k ⟨[5], d.on, d.off, d.flip⟩)[k]? = some ⟨[5], d.on, d.off, d.flip⟩) := Lib.hid (by rw [List.getElem?_set_self (by rw [HDL.out]; exact hlt)])
            have HDL5 : Hid ((ds.set k ⟨[5], d.on, d.off, d.flip⟩).length = m) := Lib.hid (by rw [List.length_set]; exact HDL.out)
            obtain ⟨gd5, cd5, d5, A5, n5, c5, hv5, -, -, hd5, q0, q1, q2, q3, fz, hwf5, -⟩ := HS5.out.deedAt 0 rfl (k := k) (by rw [HDL5.out]; exact hlt)
            simp only [Value.slice.injEq, Option.some.injEq, Addr.mk.injEq, and_true] at hv5
            obtain ⟨rfl, -, rfl⟩ := hv5
            have HQ := Lib.hid hwf5
            have f0 := fz (k * 4 + 1)
            clear hd5
            go_upto_region 8 with (fail)
            obtain ⟨w6, hw6⟩ : ∃ x, (w4.setCell ⟨gd, k * 4 + 1, none⟩ (.int .i64 0)) = x := ⟨_, rfl⟩
            have HS6 : Hid (St w w6 [rDeeds (.slice (some ⟨gd, 0, none⟩) m c2) (ds.set k ⟨[5], 0, d.off, d.flip⟩), rRd w g (hi + 201 + 2 * k), rInts (.slice A1 j1 c1) goal, rBlk T 26 #[.int .i64 st, .slice A1 j1 c1, .slice (some ⟨gd, 0, none⟩) m c2], rBlk r 26 #[.int .i64 0, .slice none 0 0, .slice none 0 0], X]) := Lib.hid (by
              have := HS5.out.putF (k := 0) (i := k) (q := 1) (d' := ⟨[5], 0, d.off, d.flip⟩) (u := .int .i64 0) rfl HDL5.out HDK5.out (by omega) rfl rfl rfl rfl ⟨rfl, HWFD.out.2⟩
              rw [hw6, List.set_cons_zero, List.set_set] at this
              exact this)
            rw [hw6]
            clear HS5 hw6 q0 q1 q2 q3 fz f0 qT HDK5 HDL5 HQ
            have qT : ∀ j, w6.cell? ⟨T, j, none⟩ = _ := HS6.out.cells 3 rfl
            have HDK6 : Hid ((ds.set k ⟨[5], 0, d.off, d.flip⟩)[k]? = some ⟨[5], 0, d.off, d.flip⟩) := Lib.hid (by rw [List.getElem?_set_self (by rw [HDL.out]; exact hlt)])
            have HDL6 : Hid ((ds.set k ⟨[5], 0, d.off, d.flip⟩).length = m) := Lib.hid (by rw [List.length_set]; exact HDL.out)
            obtain ⟨gd6, cd6, d6, A6, n6, c6, hv6, -, -, hd6, q0, q1, q2, q3, fz, -, -⟩ := HS6.out.deedAt 0 rfl (k := k) (by rw [HDL6.out]; exact hlt)
            simp only [Value.slice.injEq, Option.some.injEq, Addr.mk.injEq, and_true] at hv6
            obtain ⟨rfl, -, rfl⟩ := hv6
            have f0 := fz (k * 4 + 2)
            clear hd6
            go_upto_region 9 with (fail)
            obtain ⟨w7, hw7⟩ : ∃ x, (w6.setCell ⟨gd, k * 4 + 2, none⟩ (.int .i64 0)) = x := ⟨_, rfl⟩
            have HS7 : Hid (St w w7 [rDeeds (.slice (some ⟨gd, 0, none⟩) m c2) (ds.set k ⟨[5], 0, 0, d.flip⟩), rRd w g (hi + 201 + 2 * k), rInts (.slice A1 j1 c1) goal, rBlk T 26 #[.int .i64 st, .slice A1 j1 c1, .slice (some ⟨gd, 0, none⟩) m c2], rBlk r 26 #[.int .i64 0, .slice none 0 0, .slice none 0 0], X]) := Lib.hid (by
              have := HS6.out.putF (k := 0) (i := k) (q := 2) (d' := ⟨[5], 0, 0, d.flip⟩) (u := .int .i64 0) rfl HDL6.out HDK6.out (by omega) rfl rfl rfl rfl ⟨rfl, rfl, HWFD.out.2.2⟩
              rw [hw7, List.set_cons_zero, List.set_set] at this
              exact this)
            rw [hw7]
            clear HS6 hw7 q0 q1 q2 q3 fz f0 qT HDK6 HDL6
            obtain ⟨ds2, hds2⟩ : ∃ ds2, ds.set k ⟨[5], 0, 0, d.flip⟩ = ds2 := ⟨_, rfl⟩
            have HDL9 : Hid (ds2.length = m) := Lib.hid (by rw [← hds2, List.length_set]; exact HDL.out)
            have HDK9 : Hid (ds2[k]? = some ⟨[5], 0, 0, d.flip⟩) := Lib.hid (by rw [← hds2, List.getElem?_set_self (by rw [HDL.out]; exact hlt)])
            rw [hds2] at HS7
            obtain ⟨hh, hhh⟩ : ∃ hh, hi + 201 + 2 * k = hh := ⟨_, rfl⟩
            rw [hhh] at HS7
            have HS9 : Hid (St w w7 [rRd w g hh, rDeeds (.slice (some ⟨gd, 0, none⟩) m c2) ds2, rInts (.slice A1 j1 c1) goal, rBlk T 26 #[.int .i64 st, .slice A1 j1 c1, .slice (some ⟨gd, 0, none⟩) m c2], rBlk r 26 #[.int .i64 0, .slice none 0 0, .slice none 0 0], X]) := Lib.hid (HS7.out.pick [1, 0, 2, 3, 4, 5] (by decide) rfl rfl)
            clear HS7 hds2 HDL HDK HWFD
            have HDL := HDL9
            have HDK := HDK9
            clear HDL9 HDK9
            refine wp_reg (σ := {p : Nat × Nat × Nat // p.1 < 31 ∧ p.2.1 < 8}) (by kernel_rfl) (by kernel_rfl) (by kernel_rfl)
              (fun s i => match i with
                | 0 => .pointer (some ⟨T, 2, none⟩)
                | 1 => .slice (some ⟨gd, 0, none⟩) m c2
                | 2 => .int .i64 (k : Nat)
                | 3 => .pointer (some ⟨g, 0, none⟩)
                | 4 => .int .i64 (s.1.1 : Nat)
                | 5 => .int .i64 (1 + (s.1.1 : Int))
                | 6 => .slice (some ⟨s.1.2.2, 0, none⟩) 8 8
                | 7 => .pointer (some ⟨g, 0, none⟩)
                | 8 => .int .i64 (s.1.2.1 : Nat)
                | 9 => .pointer (some ⟨s.1.2.2, s.1.2.1, none⟩)
                | 10 => .int .i64 (flipV s.1.1 s.1.2.1)
                | 11 => .pointer (some ⟨gd, k * 4, none⟩)
                | 12 => .pointer (some ⟨gd, k * 4 + 3, none⟩)
                | _ => undef)
              (fun D s wx => Sn w wx fun i => match i with
                | 0 => some (rRd w g (hh + (D 4).toNat + (D 8).toNat))
                | 1 => some (rDeeds (.slice (some ⟨gd, 0, none⟩) m c2) (if D 13 = true then ds2.set k ⟨[5], 0, 0, (flipV s.1.1 s.1.2.1)⟩ else ds2))
                | 2 => some (rInts (.slice A1 j1 c1) goal)
                | 3 => some (rBlk T 26 #[.int .i64 st, .slice A1 j1 c1, .slice (some ⟨gd, 0, none⟩) m c2])
                | 4 => some (rBlk r 26 #[.int .i64 0, .slice none 0 0, .slice none 0 0])
                | 5 => some (X)
                | 6 => if D 6 = true then some (rBlk s.1.2.2 3 #[.int .i64 3, .int .i64 5, .int .i64 6, .int .i64 12, .int .i64 24, .int .i64 10, .int .i64 15, .int .i64 (1 + (s.1.1 : Int))]) else none
                | _ => none)
              ⟨(0, 0, 0), by decide⟩ ?_ ?_ ?_
            · intro D hD
              refine ((Sn.of_st HS9.out).quiet ((Below.refl _ _).drew)).congr fun i => ?_
              match i with
              | 0 => simp only [hD 4 (by decide), hD 8 (by decide)]; rfl
              | 1 => simp only [hD 13 (by decide)]; rfl
              | 2 => rfl
              | 3 => rfl
              | 4 => rfl
              | 5 => rfl
              | 6 => simp only [hD 6 (by decide)]; rfl
              | q + 7 => rfl
            · refine StepAll.cons (fun D s wx hR (hDi : D 0 = false) hd hsh a' hs K hK => ?_) ?_
              · have e5 := hs.old 5 (u := .pointer (some ⟨T, 0, none⟩)) (by kernel_rfl) rfl
                clear hs
                go_simp
                exact hK s wx (fun _ _ => rfl) hR
              refine StepAll.cons (fun D s wx hR (hDi : D 1 = false) hd hsh a' hs K hK => ?_) ?_
              · have e42 := hs.at_ 0 42 (u := .pointer (some ⟨T, 2, none⟩)) rfl (hd ⟨0, .data⟩ (by simp) rfl) (by kernel_rfl) (by kernel_rfl) rfl
                clear hs
                have kb : Blk wx (T) 26 #[.int .i64 st, .slice A1 j1 c1, .slice (some ⟨gd, 0, none⟩) m c2] := hR.blk 3 rfl
                have c0 : wx.cell? ⟨T, 2, none⟩ = some (.slice (some ⟨gd, 0, none⟩) m c2) := kb.cell 2
                go_simp
                exact hK s wx (fun _ _ => rfl) hR
              refine StepAll.cons (fun D s wx hR (hDi : D 2 = false) hd hsh a' hs K hK => ?_) ?_
              · have e6 := hs.old 6 (u := .int .i64 (k : Nat)) (by kernel_rfl) rfl
                clear hs
                go_simp
                exact hK s wx (fun _ _ => rfl) hR
              refine StepAll.cons (fun D s wx hR (hDi : D 3 = false) hd hsh a' hs K hK => ?_) ?_
              · have e0 := hs.old 0 (u := .pointer (some ⟨g, 0, none⟩)) (by kernel_rfl) rfl
                clear hs
                go_simp
                exact hK s wx (fun _ _ => rfl) hR
              refine StepAll.cons (fun D s wx hR (hDi : D 4 = false) hd hsh a' hs K hK => ?_) ?_
              · have e45 := hs.at_ 3 45 (u := .pointer (some ⟨g, 0, none⟩)) rfl (hd ⟨3, .data⟩ (by simp) rfl) (by kernel_rfl) (by kernel_rfl) rfl
                have g45 := getQ e45
                clear hs
                have n5 : D 5 = false := hsh.no hDi 5 rfl ⟨4, .data⟩ (by simp) rfl rfl
                have n6 : D 6 = false := hsh.no n5 6 rfl ⟨5, .data⟩ (by simp) rfl rfl
                have n9 : D 9 = false := hsh.no n6 9 rfl ⟨6, .data⟩ (by simp) rfl rfl
                have n10 : D 10 = false := hsh.no n9 10 rfl ⟨9, .data⟩ (by simp) rfl rfl
                have n13 : D 13 = false := hsh.no n10 13 rfl ⟨10, .data⟩ (by simp) rfl rfl
                go_simp
                have hb1 := Bool.toNat_le (D 4)
                have hb2 := Bool.toNat_le (D 8)
                refine (hR.pick 0 (g := g) (hi := hh + (D 4).toNat + (D 8).toNat) rfl (by omega) 31).mono ?_
                rintro e2 w2 ⟨x2, rfl, ⟨e1, e3, -⟩, s2⟩
                have e4 := e3 (by omega)
                obtain ⟨m2, rfl⟩ := Int.eq_ofNat_of_zero_le e1
                clear hb1 hb2
                refine hK ⟨(m2, s.1.2), (by show m2 < 31; omega), s.2.2⟩ w2
                  (fun j hj => by
                    match j, hj with
                    | 0, hj => rfl
                    | 1, hj => rfl
                    | 2, hj => rfl
                    | 3, hj => rfl
                    | 4, hj => rw [hDi] at hj; cases hj
                    | 5, hj => rw [n5] at hj; cases hj
                    | 6, hj => rw [n6] at hj; cases hj
                    | 7, hj => rfl
                    | 8, hj => rfl
                    | 9, hj => rw [n9] at hj; cases hj
                    | 10, hj => rw [n10] at hj; cases hj
                    | 11, hj => rfl
                    | 12, hj => rfl
                    | 13, hj => rw [n13] at hj; cases hj
                    | _ + 14, hj => rfl)
                  (s2.congr (fun i => by
                    match i with
                    | 0 => (show some (rRd w g (hh + (true).toNat + (D 8).toNat)) = some (rRd w g (hh + (D 4).toNat + (D 8).toNat + 1)); congr 2; rw [hDi]; simp only [Bool.toNat_true, Bool.toNat_false]; try omega)
                    | 1 => (show some (rDeeds _ (if D 13 = true then _ else _)) = some (rDeeds _ (if D 13 = true then _ else _)); rw [n13]; rfl)
                    | 2 => rfl
                    | 3 => rfl
                    | 4 => rfl
                    | 5 => rfl
                    | 6 => (show (if D 6 = true then some (rBlk _ _ _) else none) = (if D 6 = true then some (rBlk _ _ _) else none); rw [n6] <;> rfl)
                    | q + 7 => rfl))
              refine StepAll.cons (fun D s wx hR (hDi : D 5 = false) hd hsh a' hs K hK => ?_) ?_
              · have e46 := hs.at_ 4 46 (u := .int .i64 (s.1.1 : Nat)) rfl (hd ⟨4, .data⟩ (by simp) rfl) (by kernel_rfl) (by kernel_rfl) rfl
                clear hs
                have hx := s.2.1
                have hw : IntKind.i64.wrap (1 + (s.1.1 : Int)) = 1 + (s.1.1 : Int) := IntWalk.i64_in _ (by omega)
                go_simp
                exact hK s wx (fun _ _ => rfl) hR
              refine StepAll.cons (fun D s wx hR (hDi : D 6 = false) hd hsh a' hs K hK => ?_) ?_
              · have e47 := hs.at_ 5 47 (u := .int .i64 (1 + (s.1.1 : Int))) rfl (hd ⟨5, .data⟩ (by simp) rfl) (by kernel_rfl) (by kernel_rfl) rfl
                have g47 := getQ e47
                clear hs
                have n9 : D 9 = false := hsh.no hDi 9 rfl ⟨6, .data⟩ (by simp) rfl rfl
                go_simp
                refine hK ⟨(s.1.1, s.1.2.1, wx.heap.size), s.2⟩ _
                  (fun j hj => by
                    match j, hj with
                    | 0, hj => rfl
                    | 1, hj => rfl
                    | 2, hj => rfl
                    | 3, hj => rfl
                    | 4, hj => rfl
                    | 5, hj => rfl
                    | 6, hj => rw [hDi] at hj; cases hj
                    | 7, hj => rfl
                    | 8, hj => rfl
                    | 9, hj => rw [n9] at hj; cases hj
                    | 10, hj => rfl
                    | 11, hj => rfl
                    | 12, hj => rfl
                    | 13, hj => rfl
                    | _ + 14, hj => rfl)
                  ((hR.add 6 (if_neg (by rw [hDi]; simp)) (St.new1 wx #[.int .i64 3, .int .i64 5, .int .i64 6, .int .i64 12, .int .i64 24, .int .i64 10, .int .i64 15, .int .i64 (1 + (s.1.1 : Int))] 3)).congr
                    (fun i => by
                      match i with
                      | 0 => rfl
                      | 1 => rfl
                      | 2 => rfl
                      | 3 => rfl
                      | 4 => rfl
                      | 5 => rfl
                      | 6 => rfl
                      | q + 7 => exact (if_neg (show ¬ (q + 7 = 6) by omega)).symm))
              refine StepAll.cons (fun D s wx hR (hDi : D 7 = false) hd hsh a' hs K hK => ?_) ?_
              · have e0 := hs.old 0 (u := .pointer (some ⟨g, 0, none⟩)) (by kernel_rfl) rfl
                clear hs
                go_simp
                exact hK s wx (fun _ _ => rfl) hR
              refine StepAll.cons (fun D s wx hR (hDi : D 8 = false) hd hsh a' hs K hK => ?_) ?_
              · have e49 := hs.at_ 7 49 (u := .pointer (some ⟨g, 0, none⟩)) rfl (hd ⟨7, .data⟩ (by simp) rfl) (by kernel_rfl) (by kernel_rfl) rfl
                have g49 := getQ e49
                clear hs
                have n9 : D 9 = false := hsh.no hDi 9 rfl ⟨8, .data⟩ (by simp) rfl rfl
                have n10 : D 10 = false := hsh.no n9 10 rfl ⟨9, .data⟩ (by simp) rfl rfl
                have n13 : D 13 = false := hsh.no n10 13 rfl ⟨10, .data⟩ (by simp) rfl rfl
                go_simp
                have hb1 := Bool.toNat_le (D 4)
                have hb2 := Bool.toNat_le (D 8)
                refine (hR.pick 0 (g := g) (hi := hh + (D 4).toNat + (D 8).toNat) rfl (by omega) 8).mono ?_
                rintro e2 w2 ⟨x2, rfl, ⟨e1, e3, -⟩, s2⟩
                have e4 := e3 (by omega)
                obtain ⟨m2, rfl⟩ := Int.eq_ofNat_of_zero_le e1
                clear hb1 hb2
                refine hK ⟨(s.1.1, m2, s.1.2.2), s.2.1, (by show m2 < 8; omega)⟩ w2
                  (fun j hj => by
                    match j, hj with
                    | 0, hj => rfl
                    | 1, hj => rfl
                    | 2, hj => rfl
                    | 3, hj => rfl
                    | 4, hj => rfl
                    | 5, hj => rfl
                    | 6, hj => rfl
                    | 7, hj => rfl
                    | 8, hj => rw [hDi] at hj; cases hj
                    | 9, hj => rw [n9] at hj; cases hj
                    | 10, hj => rw [n10] at hj; cases hj
                    | 11, hj => rfl
                    | 12, hj => rfl
                    | 13, hj => rw [n13] at hj; cases hj
                    | _ + 14, hj => rfl)
                  (s2.congr (fun i => by
                    match i with
                    | 0 => (show some (rRd w g (hh + (D 4).toNat + (true).toNat)) = some (rRd w g (hh + (D 4).toNat + (D 8).toNat + 1)); congr 2; rw [hDi]; simp only [Bool.toNat_true, Bool.toNat_false]; try omega)
                    | 1 => (show some (rDeeds _ (if D 13 = true then _ else _)) = some (rDeeds _ (if D 13 = true then _ else _)); rw [n13]; rfl)
                    | 2 => rfl
                    | 3 => rfl
                    | 4 => rfl
                    | 5 => rfl
                    | 6 => rfl
                    | q + 7 => rfl))
              refine StepAll.cons (fun D s wx hR (hDi : D 9 = false) hd hsh a' hs K hK => ?_) ?_
              · have e48 := hs.at_ 6 48 (u := .slice (some ⟨s.1.2.2, 0, none⟩) 8 8) rfl (hd ⟨6, .data⟩ (by simp) rfl) (by kernel_rfl) (by kernel_rfl) rfl
                have e50 := hs.at_ 8 50 (u := .int .i64 (s.1.2.1 : Nat)) rfl (hd ⟨8, .data⟩ (by simp) rfl) (by kernel_rfl) (by kernel_rfl) rfl
                clear hs
                have hy := s.2.2
                have hyi : ((s.1.2.1 : Nat) : Int) < 8 := by omega
                go_simp
                exact hK s wx (fun _ _ => rfl) hR
              refine StepAll.cons (fun D s wx hR (hDi : D 10 = false) hd hsh a' hs K hK => ?_) ?_
              · have e51 := hs.at_ 9 51 (u := .pointer (some ⟨s.1.2.2, s.1.2.1, none⟩)) rfl (hd ⟨9, .data⟩ (by simp) rfl) (by kernel_rfl) (by kernel_rfl) rfl
                clear hs
                have hy := s.2.2
                have d9 : D 9 = true := hd ⟨9, .data⟩ (by simp) rfl
                have d6 : D 6 = true := hsh 9 _ rfl d9 ⟨6, .data⟩ (by simp) rfl
                have kb : Blk wx s.1.2.2 3 #[.int .i64 3, .int .i64 5, .int .i64 6, .int .i64 12, .int .i64 24, .int .i64 10, .int .i64 15, .int .i64 (1 + (s.1.1 : Int))] := hR.blk 6 (by simp only [d6]; rfl)
                have c0 : wx.cell? ⟨s.1.2.2, s.1.2.1, none⟩ = some (.int .i64 (flipV s.1.1 s.1.2.1)) := (kb.cell _).trans (flipV_at _ _ hy)
                go_simp
                exact hK s wx (fun _ _ => rfl) hR
              refine StepAll.cons (fun D s wx hR (hDi : D 11 = false) hd hsh a' hs K hK => ?_) ?_
              · have e43 := hs.at_ 1 43 (u := .slice (some ⟨gd, 0, none⟩) m c2) rfl (hd ⟨1, .data⟩ (by simp) rfl) (by kernel_rfl) (by kernel_rfl) rfl
                have e44 := hs.at_ 2 44 (u := .int .i64 (k : Nat)) rfl (hd ⟨2, .data⟩ (by simp) rfl) (by kernel_rfl) (by kernel_rfl) rfl
                clear hs
                have hki := HKI.out
                go_simp
                exact hK s wx (fun _ _ => rfl) hR
              refine StepAll.cons (fun D s wx hR (hDi : D 12 = false) hd hsh a' hs K hK => ?_) ?_
              · have e53 := hs.at_ 11 53 (u := .pointer (some ⟨gd, k * 4, none⟩)) rfl (hd ⟨11, .data⟩ (by simp) rfl) (by kernel_rfl) (by kernel_rfl) rfl
                clear hs
                go_simp
                exact hK s wx (fun _ _ => rfl) hR
              refine StepAll.cons (fun D s wx hR (hDi : D 13 = false) hd hsh a' hs K hK => ?_) ?_
              · have e54 := hs.at_ 12 54 (u := .pointer (some ⟨gd, k * 4 + 3, none⟩)) rfl (hd ⟨12, .data⟩ (by simp) rfl) (by kernel_rfl) (by kernel_rfl) rfl
                have e52 := hs.at_ 10 52 (u := .int .i64 (flipV s.1.1 s.1.2.1)) rfl (hd ⟨10, .data⟩ (by simp) rfl) (by kernel_rfl) (by kernel_rfl) rfl
                clear hs
                obtain ⟨c0, f0⟩ := hR.deedAt 1 (k := k) (by simp only [hDi]; rfl) HDK.out
                have f1 := f0 (k * 4 + 3)
                go_simp
                exact hK s _ (fun _ _ => rfl) ((hR.putF (k := 1) (i := k) (q := 3) (d' := ⟨[5], 0, 0, (flipV s.1.1 s.1.2.1)⟩) (u := .int .i64 (flipV s.1.1 s.1.2.1)) (by simp only [hDi]; rfl) HDL.out HDK.out (by omega) rfl rfl rfl rfl ⟨rfl, rfl, flipV_wf s.2.1 s.2.2⟩).congr
                    (fun i => by
                      match i with
                      | 0 => rfl
                      | 1 => rfl
                      | 2 => rfl
                      | 3 => rfl
                      | 4 => rfl
                      | 5 => rfl
                      | 6 => rfl
                      | q + 7 => exact (if_neg (show ¬ (q + 7 = 1) by omega)).symm))
              exact StepAll.nil
            · intro D s wx hR hD
              simp only [putA, Act.put, List.setIfInBounds_toArray, List.set_cons_zero, List.set_cons_succ]
              obtain ⟨⟨x1, y1, b1⟩, hx1, hy1⟩ := s
              simp only at hx1 hy1 hR ⊢
              have HDL3 := HDL
              obtain ⟨d2, hd2⟩ : ∃ d2, (⟨[5], 0, 0, flipV x1 y1⟩ : DeedD) = d2 := ⟨_, rfl⟩
              have HSA : Hid (St w wx [rRd w g (hh + 1 + 1), rDeeds (.slice (some ⟨gd, 0, none⟩) m c2) (ds2.set k d2), rInts (.slice A1 j1 c1) goal, rBlk T 26 #[.int .i64 st, .slice A1 j1 c1, .slice (some ⟨gd, 0, none⟩) m c2], rBlk r 26 #[.int .i64 0, .slice none 0 0, .slice none 0 0], X]) := Lib.hid (by
                rw [← hd2]
                exact hR.to_st [0, 1, 2, 3, 4, 5] (by decide) (by simp only [List.map, hD 4 (by decide), hD 8 (by decide), hD 13 (by decide)] <;> rfl))
              clear hR hD HS9 hd2
              have HL2 : Hid ((ds2.set k d2).length = m) := Lib.hid (by rw [List.length_set]; exact HDL.out)
              go_wp2
              go_roundw
              case rel =>
                refine ⟨_, _, _, _, _, _, _, _, _, _, _, _, _, _, _, _, _, _, _, _, _, _, _, _, _, _, _, _, _, _, _, _, _, _, _, _, _, _, _, _, _, ?_, rfl⟩
                exact ⟨k + 1, _, by omega, by go_num, HL2, HSA.out.more (by omega)⟩
              case measure => simp [intOf]; omega
        · go_wp2
          go_meet
          case rel => exact ⟨ds, HDL.out, HS.out.more (by omega)⟩
    · have h2' : (x2 == 0) = false := by simpa using h2
      clear h2
      go_wp2
      go_meet
      case rel => exact ⟨ds, HDL0.out, HS2.out.more (by omega)⟩
  case rest =>
    obtain ⟨ds', hl', SC⟩ := hcut
    have HS3 := Lib.hid SC
    have HDL3 := Lib.hid hl'
    have HTK : Hid (RdT wc wc.heap.size (.agg #[.int .i64 st, .slice A1 j1 c1, .slice A2 m c2]) ⟨st, goal, ds'⟩) := Lib.hid (((HS3.out.pick [2, 1] (by decide) rfl rfl).task (by have := HGL.out; omega) HWS.out).rdT 0 rfl)
    obtain ⟨tb, htb⟩ : ∃ b, taskOk ⟨st, goal, ds'⟩ = b := ⟨_, rfl⟩
    have qT : ∀ j, wc.cell? ⟨T, j, none⟩ = _ := HS3.out.cells 3 rfl
    clear SC hl' HDL0 HS2 p1 p3
    go_wp2_with fail
    refine (taskValid_spec _ ⟨st, goal, ds'⟩ _ HTK.out).mono ?_
    rw [htb]
    rintro e w3 ⟨rfl, hb3⟩
    have HS4 := Lib.hid (HS3.out.quiet hb3)
    clear hb3 HS3 HTK htb qT
    cases tb with
    | false =>
      have q8 : ∀ j, w3.cell? ⟨T, j, none⟩ = _ := HS4.out.cells 3 rfl
      have q9 : ∀ j, w3.cell? ⟨r, j, none⟩ = _ := HS4.out.cells 4 rfl
      have f9 := HS4.out.free 4 rfl
      have HF := Lib.hid (((((HS4.out.set3 4 rfl (.int .i64 st) (.slice A1 j1 c1) (.slice A2 m c2)).pick [2, 1, 0, 5] (by decide) rfl rfl).task (by have := HGL.out; omega) HWS.out).swap2).more (hi' := hi + 400) (by omega))
      clear HS4
      go_wp2
      refine bodyPost_ret (v := .agg #[.int .i64 st, .slice A1 j1 c1, .slice A2 m c2]) (by simp [results, Tryd.results82, go_sem, q9]) rfl ⟨_, _, rfl, HF.out⟩
    | true =>
      go_wp2_with fail
      refine (pick_rd HS4.out (by omega) 2).mono ?_
      rintro e w4 ⟨x4, rfl, ⟨p1, p2, -⟩, s4⟩
      have p3 := p2 (by omega)
      have HS5 := Lib.hid s4
      clear s4 p2 HS4
      by_cases h4 : x4 = 0
      case neg =>
        have h4' : (x4 == 0) = false := by simpa using h4
        clear h4
        have q8 : ∀ j, w4.cell? ⟨T, j, none⟩ = _ := HS5.out.cells 3 rfl
        have q9 : ∀ j, w4.cell? ⟨r, j, none⟩ = _ := HS5.out.cells 4 rfl
        have f9 := HS5.out.free 4 rfl
        have HF := Lib.hid (((((HS5.out.set3 4 rfl (.int .i64 st) (.slice A1 j1 c1) (.slice A2 m c2)).pick [2, 1, 0, 5] (by decide) rfl rfl).task (by have := HGL.out; omega) HWS.out).swap2).more (hi' := hi + 400) (by omega))
        clear HS5
        go_wp2
        refine bodyPost_ret (v := .agg #[.int .i64 st, .slice A1 j1 c1, .slice A2 m c2]) (by simp [results, Tryd.results82, go_sem, q9]) rfl ⟨_, _, rfl, HF.out⟩
      subst h4
      have S6 : St w (w4.alloc (.cells #[] 3)) [rRd w g (hi + 220 + 1), rDeeds (.slice A2 m c2) ds', rBlk T 26 #[.int .i64 st, .slice A1 j1 c1, .slice A2 m c2], rBlk r 26 #[.int .i64 0, .slice none 0 0, .slice none 0 0], X, rInts (.slice (some ⟨w4.heap.size, 0, none⟩) 0 0) []] := (HS5.out.call (St.newI w4 w4.heap.size rfl)).pick [0, 1, 3, 4, 5, 6] (by decide) rfl rfl
      have qT : ∀ j, (w4.alloc (.cells #[] 3)).cell? ⟨T, j, none⟩ = _ := S6.cells 2 rfl
      have fT := S6.free 2 rfl
      have HS6 : Hid (St w ((w4.alloc (.cells #[] 3)).setCell ⟨T, 1, none⟩ (.slice (some ⟨w4.heap.size, 0, none⟩) 0 0)) [rRd w g (hi + 221), rInts (.slice (some ⟨w4.heap.size, 0, none⟩) 0 0) [], rDeeds (.slice A2 m c2) ds', rBlk T 26 #[.int .i64 st, .slice (some ⟨w4.heap.size, 0, none⟩) 0 0, .slice A2 m c2], rBlk r 26 #[.int .i64 0, .slice none 0 0, .slice none 0 0], X]) := Lib.hid ((S6.set 2 rfl 1 (.slice (some ⟨w4.heap.size, 0, none⟩) 0 0)).pick [0, 5, 1, 2, 3, 4] (by decide) rfl rfl)
      clear S6 HS5 p1 p3
      go_wp2_with fail
      refine (pick_rd HS6.out (by omega) 32).mono ?_
      rintro e w7 ⟨x7, rfl, ⟨p1, p2, -⟩, s7⟩
      have p3 := p2 (by omega)
      obtain ⟨z, rfl⟩ := Int.eq_ofNat_of_zero_le p1
      have HS7 := Lib.hid (s7.more (hi' := hi + 230) (by omega))
      clear s7 p2 HS6 qT fT p1
      go_wp2
      go_loopw [8] (fun iv wr => ∃ (k : Nat) (A1 : Option Addr) (n c1 : Nat) (goal : List Int), k ≤ 5 ∧ iv = .int .i64 k ∧ Hid (goal.length = n) ∧ n ≤ 3 * k ∧ St w wr [rRd w g (hi + 230), rInts (.slice A1 n c1) goal, rDeeds (.slice A2 m c2) ds', rBlk T 26 #[.int .i64 st, .slice A1 n c1, .slice A2 m c2], rBlk r 26 #[.int .i64 0, .slice none 0 0, .slice none 0 0], X]) (fun iv _ => 5 - (intOf iv).toNat)
      case atStart => exact ⟨0, _, 0, 0, [], by omega, rfl, Lib.hid rfl, by omega, HS7.out⟩
      case round =>
        clear HS7
        obtain ⟨k, A1, n, c1, goal, hk, rfl, HGN, hn3, S⟩ := hrel
        have HS := Lib.hid S
        clear S
        by_cases hlt : k < 5
        · have qT : ∀ j, wr.cell? ⟨T, j, none⟩ = _ := HS.out.cells 3 rfl
          have HXW : Hid (∀ y ∈ [((k : Nat) : Int)], (Lit.int .i64 y).wf = true) := Lib.hid (by intro y hy; simp at hy; subst hy; exact wf_i64_mk (by omega))
          have HROW : Hid (wr.ownsRow 0 3 1 (.slice A1 n c1) (n) (ints (goal))) := Lib.hid (by have := HS.out.ownI 1 rfl; rwa [HGN.out] at this)
          have HAP : Hid (∀ v3 w3, w3.ownsRow 0 3 1 v3 (n + 1) (ints (goal) ++ [Value.int .i64 ((k : Nat) : Int)]) → (wr.alloc (.cells #[.int .i64 ((k : Nat) : Int)] 3)).grownBy w3 (Value.slice A1 n c1).ownBlock → (v3.ownBlock = (Value.slice A1 n c1).ownBlock ∨ v3.ownBlock = some (wr.alloc (.cells #[.int .i64 ((k : Nat) : Int)] 3)).heap.size) → St w w3 [rRd w g (hi + 230), rInts v3 (goal ++ [((k : Nat) : Int)]), rDeeds (.slice A2 m c2) ds', rBlk T 26 #[.int .i64 st, .slice A1 n c1, .slice A2 m c2], rBlk r 26 #[.int .i64 0, .slice none 0 0, .slice none 0 0], X]) :=
            Lib.hid fun v3 w3 h1 h2 h3 => St.appI (v := .slice A1 n c1) (xs := goal) (ys := [((k : Nat) : Int)]) ((HS.out.alloc #[.int .i64 ((k : Nat) : Int)] 3).pick [0, 1, 2, 3, 4, 5] (by decide) rfl rfl) 1 rfl (by rw [HGN.out]; rfl) h1 HXW.out h2 h3
          go_wp2_with (at_builtin; refine wp_app elInt rfl _ _ rfl 0 (.slice A1 n c1) (n) (ints (goal)) rfl (HROW.out.alloc _) _ _ 1 1 [.int .i64 ((k : Nat) : Int)] rfl (RdRow.new wr [.int .i64 ((k : Nat) : Int)] 3 1 1 rfl (by unfold maxLen; omega)) (by simp [Value.oneCell']) (by omega) (by omega) (Nat.zero_le _) ?_; intro v3 w3 hown3 hg3 hat3; obtain ⟨A4, c4, hv4⟩ := own_form hown3; subst hv4; have HS6 := Lib.hid (HAP.out _ w3 hown3 hg3 hat3); have qT3 : ∀ j, w3.cell? ⟨T, j, none⟩ = _ := HS6.out.cells 3 rfl; have fT3 := HS6.out.free 3 rfl; clear hown3 hg3 hat3)
          have HS7 : Hid (St w (w3.setCell ⟨T, 1, none⟩ (.slice A4 (n + 1) c4)) [rRd w g (hi + 230), rInts (.slice A4 (n + 1) c4) (goal ++ [((k : Nat) : Int)]), rDeeds (.slice A2 m c2) ds', rBlk T 26 #[.int .i64 st, .slice A4 (n + 1) c4, .slice A2 m c2], rBlk r 26 #[.int .i64 0, .slice none 0 0, .slice none 0 0], X]) := Lib.hid (HS6.out.set 3 rfl 1 (.slice A4 (n + 1) c4))
          clear HROW HAP HS6 qT3 fT3
          refine (l1Bit_nat z k (by omega) _).mono ?_
          rintro e w8 ⟨rfl, rfl⟩
          obtain ⟨w8, hw8⟩ : ∃ x, (w3.setCell ⟨T, 1, none⟩ (.slice A4 (n + 1) c4)) = x := ⟨_, rfl⟩
          have HS8 := HS7
          rw [hw8] at HS8 ⊢
          clear hw8 qT HS7 HS
          by_cases hb1 : bit z k = 0
          · rw [hb1]
            clear hb1
            have HGN : Hid ((goal ++ [((k : Nat) : Int)]).length = n + 1) := Lib.hid (by rw [List.length_append, HGN.out]; rfl)
            have qT : ∀ j, w8.cell? ⟨T, j, none⟩ = _ := HS8.out.cells 3 rfl
            have HROW : Hid (w8.ownsRow 0 3 1 (.slice A4 (n + 1) c4) ((n + 1)) (ints (goal ++ [((k : Nat) : Int)]))) := Lib.hid (by have := HS8.out.ownI 1 rfl; rwa [HGN.out] at this)
            have HAP : Hid (∀ v3 w3, w3.ownsRow 0 3 1 v3 (n + 1 + 1) (ints (goal ++ [((k : Nat) : Int)]) ++ [Value.int .i64 7]) → (w8.alloc (.cells #[.int .i64 7] 3)).grownBy w3 (Value.slice A4 (n + 1) c4).ownBlock → (v3.ownBlock = (Value.slice A4 (n + 1) c4).ownBlock ∨ v3.ownBlock = some (w8.alloc (.cells #[.int .i64 7] 3)).heap.size) → St w w3 [rRd w g (hi + 230), rInts v3 (goal ++ [((k : Nat) : Int)] ++ [7]), rDeeds (.slice A2 m c2) ds', rBlk T 26 #[.int .i64 st, .slice A4 (n + 1) c4, .slice A2 m c2], rBlk r 26 #[.int .i64 0, .slice none 0 0, .slice none 0 0], X]) :=
              Lib.hid fun v3 w3 h1 h2 h3 => St.appI (v := .slice A4 (n + 1) c4) (xs := goal ++ [((k : Nat) : Int)]) (ys := [7]) ((HS8.out.alloc #[.int .i64 7] 3).pick [0, 1, 2, 3, 4, 5] (by decide) rfl rfl) 1 rfl (by rw [HGN.out]; rfl) h1 (by intro y hy; simp at hy; subst hy; rfl) h2 h3
            go_upto_region 19 with (at_builtin; refine wp_app elInt rfl _ _ rfl 0 (.slice A4 (n + 1) c4) ((n + 1)) (ints (goal ++ [((k : Nat) : Int)])) rfl (HROW.out.alloc _) _ _ 1 1 [.int .i64 7] rfl (RdRow.new w8 [.int .i64 7] 3 1 1 rfl (by unfold maxLen; omega)) (by simp [Value.oneCell']) (by omega) (by omega) (Nat.zero_le _) ?_; intro v3 w3 hown3 hg3 hat3; obtain ⟨A4, c4, hv4⟩ := own_form hown3; subst hv4; have HS6 := Lib.hid (HAP.out _ w3 hown3 hg3 hat3); have qT3 : ∀ j, w3.cell? ⟨T, j, none⟩ = _ := HS6.out.cells 3 rfl; have fT3 := HS6.out.free 3 rfl; clear hown3 hg3 hat3)
            have HS9 : Hid (St w (w3.setCell ⟨T, 1, none⟩ (.slice A4 (n + 1 + 1) c4)) [rRd w g (hi + 230), rInts (.slice A4 (n + 1 + 1) c4) (goal ++ [((k : Nat) : Int)] ++ [7]), rDeeds (.slice A2 m c2) ds', rBlk T 26 #[.int .i64 st, .slice A4 (n + 1 + 1) c4, .slice A2 m c2], rBlk r 26 #[.int .i64 0, .slice none 0 0, .slice none 0 0], X]) := Lib.hid (HS6.out.set 3 rfl 1 (.slice A4 (n + 1 + 1) c4))
            clear HROW HAP HS6 qT3 fT3
            have HGN : Hid ((goal ++ [((k : Nat) : Int)] ++ [7]).length = n + 1 + 1) := Lib.hid (by rw [List.length_append, HGN.out]; rfl)
            obtain ⟨w9, hw9⟩ : ∃ x, (w3.setCell ⟨T, 1, none⟩ (.slice A4 (n + 1 + 1) c4)) = x := ⟨_, rfl⟩
            have HSA := HS9
            rw [hw9] at HSA ⊢
            clear hw9 qT HS9 HS8
            by_cases hk0 : k = 0
            · subst hk0
              go_wp2
              go_roundw
              case rel => exact ⟨0 + 1, A4, n + 1 + 1, c4, _, by omega, by go_num, HGN, by omega, HSA.out⟩
              case measure => simp [intOf]
            · have hk0i : (0 : Int) < (k : Int) := by omega
              have qT : ∀ j, w9.cell? ⟨T, j, none⟩ = _ := HSA.out.cells 3 rfl
              have HROW : Hid (w9.ownsRow 0 3 1 (.slice A4 (n + 1 + 1) c4) ((n + 1 + 1)) (ints (goal ++ [((k : Nat) : Int)] ++ [7]))) := Lib.hid (by have := HSA.out.ownI 1 rfl; rwa [HGN.out] at this)
              have HAP : Hid (∀ v3 w3, w3.ownsRow 0 3 1 v3 (n + 1 + 1 + 1) (ints (goal ++ [((k : Nat) : Int)] ++ [7]) ++ [Value.int .i64 8]) → (w9.alloc (.cells #[.int .i64 8] 3)).grownBy w3 (Value.slice A4 (n + 1 + 1) c4).ownBlock → (v3.ownBlock = (Value.slice A4 (n + 1 + 1) c4).ownBlock ∨ v3.ownBlock = some (w9.alloc (.cells #[.int .i64 8] 3)).heap.size) → St w w3 [rRd w g (hi + 230), rInts v3 (goal ++ [((k : Nat) : Int)] ++ [7] ++ [8]), rDeeds (.slice A2 m c2) ds', rBlk T 26 #[.int .i64 st, .slice A4 (n + 1 + 1) c4, .slice A2 m c2], rBlk r 26 #[.int .i64 0, .slice none 0 0, .slice none 0 0], X]) :=
                Lib.hid fun v3 w3 h1 h2 h3 => St.appI (v := .slice A4 (n + 1 + 1) c4) (xs := goal ++ [((k : Nat) : Int)] ++ [7]) (ys := [8]) ((HSA.out.alloc #[.int .i64 8] 3).pick [0, 1, 2, 3, 4, 5] (by decide) rfl rfl) 1 rfl (by rw [HGN.out]; rfl) h1 (by intro y hy; simp at hy; subst hy; rfl) h2 h3
              go_wp2_with (at_builtin; refine wp_app elInt rfl _ _ rfl 0 (.slice A4 (n + 1 + 1) c4) ((n + 1 + 1)) (ints (goal ++ [((k : Nat) : Int)] ++ [7])) rfl (HROW.out.alloc _) _ _ 1 1 [.int .i64 8] rfl (RdRow.new w9 [.int .i64 8] 3 1 1 rfl (by unfold maxLen; omega)) (by simp [Value.oneCell']) (by omega) (by omega) (Nat.zero_le _) ?_; intro v3 w3 hown3 hg3 hat3; obtain ⟨A4, c4, hv4⟩ := own_form hown3; subst hv4; have HS6 := Lib.hid (HAP.out _ w3 hown3 hg3 hat3); have qT3 : ∀ j, w3.cell? ⟨T, j, none⟩ = _ := HS6.out.cells 3 rfl; have fT3 := HS6.out.free 3 rfl; clear hown3 hg3 hat3)
              have HSB : Hid (St w (w3.setCell ⟨T, 1, none⟩ (.slice A4 (n + 1 + 1 + 1) c4)) [rRd w g (hi + 230), rInts (.slice A4 (n + 1 + 1 + 1) c4) (goal ++ [((k : Nat) : Int)] ++ [7] ++ [8]), rDeeds (.slice A2 m c2) ds', rBlk T 26 #[.int .i64 st, .slice A4 (n + 1 + 1 + 1) c4, .slice A2 m c2], rBlk r 26 #[.int .i64 0, .slice none 0 0, .slice none 0 0], X]) := Lib.hid (HS6.out.set 3 rfl 1 (.slice A4 (n + 1 + 1 + 1) c4))
              clear HROW HAP HS6 qT3 fT3
              have HGN3 : Hid ((goal ++ [((k : Nat) : Int)] ++ [7] ++ [8]).length = n + 1 + 1 + 1) := Lib.hid (by rw [List.length_append, HGN.out]; rfl)
              go_roundw
              case rel => exact ⟨k + 1, A4, n + 1 + 1 + 1, c4, _, by omega, by go_num, HGN3, by omega, HSB.out⟩
              case measure => simp [intOf]; omega
          · have hb2 : bit z k = 1 := by have := bit_lt z k; omega
            rw [hb2]
            clear hb1 hb2
            have HGN : Hid ((goal ++ [((k : Nat) : Int)]).length = n + 1) := Lib.hid (by rw [List.length_append, HGN.out]; rfl)
            by_cases hk0 : k = 0
            · subst hk0
              go_wp2
              go_roundw
              case rel => exact ⟨0 + 1, A4, n + 1, c4, _, by omega, by go_num, HGN, by omega, HS8.out⟩
              case measure => simp [intOf]
            · have hk0i : (0 : Int) < (k : Int) := by omega
              have qT : ∀ j, w8.cell? ⟨T, j, none⟩ = _ := HS8.out.cells 3 rfl
              have HROW : Hid (w8.ownsRow 0 3 1 (.slice A4 (n + 1) c4) ((n + 1)) (ints (goal ++ [((k : Nat) : Int)]))) := Lib.hid (by have := HS8.out.ownI 1 rfl; rwa [HGN.out] at this)
              have HAP : Hid (∀ v3 w3, w3.ownsRow 0 3 1 v3 (n + 1 + 1) (ints (goal ++ [((k : Nat) : Int)]) ++ [Value.int .i64 8]) → (w8.alloc (.cells #[.int .i64 8] 3)).grownBy w3 (Value.slice A4 (n + 1) c4).ownBlock → (v3.ownBlock = (Value.slice A4 (n + 1) c4).ownBlock ∨ v3.ownBlock = some (w8.alloc (.cells #[.int .i64 8] 3)).heap.size) → St w w3 [rRd w g (hi + 230), rInts v3 (goal ++ [((k : Nat) : Int)] ++ [8]), rDeeds (.slice A2 m c2) ds', rBlk T 26 #[.int .i64 st, .slice A4 (n + 1) c4, .slice A2 m c2], rBlk r 26 #[.int .i64 0, .slice none 0 0, .slice none 0 0], X]) :=
                Lib.hid fun v3 w3 h1 h2 h3 => St.appI (v := .slice A4 (n + 1) c4) (xs := goal ++ [((k : Nat) : Int)]) (ys := [8]) ((HS8.out.alloc #[.int .i64 8] 3).pick [0, 1, 2, 3, 4, 5] (by decide) rfl rfl) 1 rfl (by rw [HGN.out]; rfl) h1 (by intro y hy; simp at hy; subst hy; rfl) h2 h3
              go_wp2_with (at_builtin; refine wp_app elInt rfl _ _ rfl 0 (.slice A4 (n + 1) c4) ((n + 1)) (ints (goal ++ [((k : Nat) : Int)])) rfl (HROW.out.alloc _) _ _ 1 1 [.int .i64 8] rfl (RdRow.new w8 [.int .i64 8] 3 1 1 rfl (by unfold maxLen; omega)) (by simp [Value.oneCell']) (by omega) (by omega) (Nat.zero_le _) ?_; intro v3 w3 hown3 hg3 hat3; obtain ⟨A4, c4, hv4⟩ := own_form hown3; subst hv4; have HS6 := Lib.hid (HAP.out _ w3 hown3 hg3 hat3); have qT3 : ∀ j, w3.cell? ⟨T, j, none⟩ = _ := HS6.out.cells 3 rfl; have fT3 := HS6.out.free 3 rfl; clear hown3 hg3 hat3)
              have HSB : Hid (St w (w3.setCell ⟨T, 1, none⟩ (.slice A4 (n + 1 + 1) c4)) [rRd w g (hi + 230), rInts (.slice A4 (n + 1 + 1) c4) (goal ++ [((k : Nat) : Int)] ++ [8]), rDeeds (.slice A2 m c2) ds', rBlk T 26 #[.int .i64 st, .slice A4 (n + 1 + 1) c4, .slice A2 m c2], rBlk r 26 #[.int .i64 0, .slice none 0 0, .slice none 0 0], X]) := Lib.hid (HS6.out.set 3 rfl 1 (.slice A4 (n + 1 + 1) c4))
              clear HROW HAP HS6 qT3 fT3
              have HGN3 : Hid ((goal ++ [((k : Nat) : Int)] ++ [8]).length = n + 1 + 1) := Lib.hid (by rw [List.length_append, HGN.out]; rfl)
              go_roundw
              case rel => exact ⟨k + 1, A4, n + 1 + 1, c4, _, by omega, by go_num, HGN3, by omega, HSB.out⟩
              case measure => simp [intOf]; omega
        · have hgl : goal.length ≤ 15 := by rw [HGN.out]; omega
          have q8 : ∀ j, wr.cell? ⟨T, j, none⟩ = _ := HS.out.cells 3 rfl
          have q9 : ∀ j, wr.cell? ⟨r, j, none⟩ = _ := HS.out.cells 4 rfl
          have f9 := HS.out.free 4 rfl
          have HF := Lib.hid (((((HS.out.set3 4 rfl (.int .i64 st) (.slice A1 n c1) (.slice A2 m c2)).pick [1, 2, 0, 5] (by decide) rfl rfl).task (by omega) HWS.out).swap2).more (hi' := hi + 400) (by omega))
          clear HS
          go_wp2
          refine bodyPost_ret (v := .agg #[.int .i64 st, .slice A1 n c1, .slice A2 m c2]) (by simp [results, Tryd.results82, go_sem, q9]) rfl ⟨_, _, rfl, HF.out⟩
end Go.Proofs.YtkimgdfcgfhibaaDoor
