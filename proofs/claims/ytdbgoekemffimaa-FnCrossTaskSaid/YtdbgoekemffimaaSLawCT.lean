/- The walk of the law FnCrossTask: true for every drawn code. -/
import Derived.Test.YtdbgoekemffimaaSL20Items
import Derived.Test.YtdbgoekemffimaaSCrossQ
import Derived.Test.YtdbgoekemffimaaSCrossS
import Derived.Test.YtdbgoekemffimaaSSame
import Derived.Test.YtdbgoekemffimaaSAlive
namespace Go.Proofs.Ytdbgoekemffimaa
set_option linter.unusedVariables false
set_option linter.unusedSimpArgs false
open Go.ChangeShapes Go.WideShapes Go.ChangeAt Go.RowKit

/-- a deed, of a row of deeds that is read -/
theorem RdTM.deedAt {M B : Nat} {w : World} {s : Int} {y : Value} {A : Option Addr} {n c : Nat} {t : TaskD} (h : RdTM M w B (.agg #[.int .i64 s, y, .slice A n c]) t) {k : Nat} (hk : k < n) : ∃ b off d, A = some ⟨b, off, none⟩ ∧ b < B ∧ t.deeds[k]? = some d ∧ RdDAtM M w B b (off + k * 4) d := by
  obtain ⟨A0, n0, c0, A1, n1, c1, e, h1, h2, h3, h4⟩ := h
  simp only [Value.agg.injEq, Array.mk.injEq, List.cons.injEq, Value.slice.injEq, and_true] at e
  obtain ⟨-, -, rfl, rfl, rfl⟩ := e
  obtain ⟨b, off, e, hb, hc⟩ := h3.at_ (by omega)
  obtain ⟨d, hd⟩ : ∃ d, t.deeds[k]? = some d := ⟨_, List.getElem?_eq_getElem (by rw [h3.len]; exact hk)⟩
  exact ⟨b, off, d, e, hb, hd, hc k d hd⟩
theorem RdTM.deedsLen {M B : Nat} {w : World} {s : Int} {y : Value} {A : Option Addr} {n c : Nat} {t : TaskD} (h : RdTM M w B (.agg #[.int .i64 s, y, .slice A n c]) t) : t.deeds.length = n ∧ n ≤ c ∧ c ≤ maxLen := by
  obtain ⟨A0, n0, c0, A1, n1, c1, e, h1, h2, h3, h4⟩ := h
  simp only [Value.agg.injEq, Array.mk.injEq, List.cons.injEq, Value.slice.injEq, and_true] at e
  obtain ⟨-, -, rfl, rfl, rfl⟩ := e
  exact ⟨h3.len, h3.cap, h3.capMax⟩
theorem RdTM.goalLen {M B : Nat} {w : World} {s : Int} {y : Value} {A : Option Addr} {n c : Nat} {t : TaskD} (h : RdTM M w B (.agg #[.int .i64 s, .slice A n c, y]) t) : t.goal.length = n := by
  obtain ⟨A0, n0, c0, A1, n1, c1, e, h1, h2, h3, h4⟩ := h
  simp only [Value.agg.injEq, Array.mk.injEq, List.cons.injEq, Value.slice.injEq, and_true] at e
  obtain ⟨-, ⟨rfl, rfl, rfl⟩, -⟩ := e
  exact h1.len
theorem deedDoZ_back {ds : List DeedD} (hd : ∀ d ∈ ds, deedOk d = true) {d : DeedD} (hm : d ∈ ds) {s : Nat} (hs : s < 32) (hb : ∀ s', deedDo d s = some s' → deedDo d s' = some s) (h0 : 0 ≤ deedDoZ d (s : Int)) : deedDoZ d (deedDoZ d (s : Int)) = (s : Int) := by
  have hk := hd d hm
  have e1 : deedDoZ d (s : Int) = opt (deedDo d s) := by unfold deedDoZ; rw [if_pos ⟨hk, (stIn_iff _).2 (by omega)⟩, Int.toNat_natCast]
  rw [e1] at h0 ⊢
  cases he : deedDo d s with
  | none => rw [he] at h0; simp [opt] at h0
  | some s' =>
    have h32 := deedDo_lt d s s' hk hs he
    show deedDoZ d (s' : Int) = (s : Int)
    unfold deedDoZ
    rw [if_pos ⟨hk, (stIn_iff _).2 (by omega)⟩, Int.toNat_natCast, hb s' he]
    rfl
set_option maxRecDepth 100000 in
set_option maxHeartbeats 2000000 in
theorem FnCrossTask_walk (A : Option Addr) (n c : Nat) (xs : List Int) (w : World) (h : RdI .u8 w w.heap.size A n c xs) :
    Calls Try.prog 6 #[.slice A n c] w fun e w' => e = .returned (.bool true) ∧ Below w.heap.size w w' := by
  have hcap := h.cap
  have hmax := h.capMax
  unfold maxLen at hmax
  have H := Lib.hid h
  clear h
  by_cases hn : n ≤ 1048576
  case neg =>
    go_enter Try.func6, Try.ntmps6
    go_wp2
    go_ret
    exact ⟨rfl, Below.refl _ _⟩
  go_enter Try.func6, Try.ntmps6
  go_wp2_with fail
  refine (drawCrossTask A n c xs _ H.out).mono ?_
  rintro e w1 ⟨v1, ys, rfl, s1⟩
  obtain ⟨A1, n1, c1, hv⟩ := s1.formG 0 rfl
  subst hv
  obtain ⟨g3, hg3⟩ : ∃ x, w1.heap.size = x := ⟨_, rfl⟩
  have HS1 : Hid (St w (w1.alloc (.cells #[.slice A1 n1 c1] 37)) [rGraph (.agg #[.slice A1 n1 c1]) ys, rBlk g3 37 #[.slice A1 n1 c1]]) := Lib.hid (by rw [← hg3]; exact s1.alloc _ _)
  clear s1
  try rw [hg3]
  obtain ⟨t, ht⟩ : ∃ x, crossTask ys = x := ⟨_, rfl⟩
  have HT := Bx.mk ht
  obtain ⟨ok, hok⟩ : ∃ x, crossOk ys = x := ⟨_, rfl⟩
  have HOK := Bx.mk hok
  obtain ⟨ts, hts⟩ : ∃ x, t.start = x := ⟨_, rfl⟩
  have HTS := Bx.mk hts
  clear ht hok hts
  have q1 : ∀ j, (w1.alloc (.cells #[.slice A1 n1 c1] 37)).cell? ⟨g3, j, none⟩ = _ := HS1.out.cells 1 rfl
  go_wp2_with fail
  refine (crossTask_impl A1 n1 c1 ys _ (HS1.out.rdG 0 rfl).ints.1).mono ?_
  rw [HT.out, HOK.out]
  rintro e w2 ⟨v2, rfl, s2⟩
  obtain ⟨A2, n2, c2, A3, n3, c3, hv⟩ := s2.formT 0 rfl
  rw [HTS.out] at hv
  subst hv
  obtain ⟨g4, hg4⟩ : ∃ x, w2.heap.size = x := ⟨_, rfl⟩
  have HS2 : Hid (St w (w2.alloc (.cells #[.int .i64 ts, .slice A2 n2 c2, .slice A3 n3 c3] 26)) [rGraph (.agg #[.slice A1 n1 c1]) ys, rBlk g3 37 #[.slice A1 n1 c1], rTask (.agg #[.int .i64 ts, .slice A2 n2 c2, .slice A3 n3 c3]) t, rBlk g4 26 #[.int .i64 ts, .slice A2 n2 c2, .slice A3 n3 c3]]) := Lib.hid (by rw [← hg4]; exact (HS1.out.call s2).alloc _ _)
  clear s2 HS1 q1
  try rw [hg4]
  have q1 : ∀ j, (w2.alloc (.cells #[.int .i64 ts, .slice A2 n2 c2, .slice A3 n3 c3] 26)).cell? ⟨g3, j, none⟩ = _ := HS2.out.cells 1 rfl
  have q3 : ∀ j, (w2.alloc (.cells #[.int .i64 ts, .slice A2 n2 c2, .slice A3 n3 c3] 26)).cell? ⟨g4, j, none⟩ = _ := HS2.out.cells 3 rfl
  go_wp2_with fail
  refine (crossTask_spec A1 n1 c1 ys _ (HS2.out.rdG 0 rfl).ints.1).mono ?_
  rw [HT.out, HOK.out]
  rintro e w3 ⟨v3, rfl, s3⟩
  obtain ⟨A4, n4, c4, A5, n5, c5, hv⟩ := s3.formT 0 rfl
  rw [HTS.out] at hv
  subst hv
  obtain ⟨g6, hg6⟩ : ∃ x, w3.heap.size = x := ⟨_, rfl⟩
  obtain ⟨w4, hw4⟩ : ∃ x, w3.alloc (.cells #[.int .i64 ts, .slice A4 n4 c4, .slice A5 n5 c5] 26) = x := ⟨_, rfl⟩
  have HS4 : Hid (St w w4 [rGraph (.agg #[.slice A1 n1 c1]) ys, rBlk g3 37 #[.slice A1 n1 c1], rTask (.agg #[.int .i64 ts, .slice A2 n2 c2, .slice A3 n3 c3]) t, rBlk g4 26 #[.int .i64 ts, .slice A2 n2 c2, .slice A3 n3 c3], rTask (.agg #[.int .i64 ts, .slice A4 n4 c4, .slice A5 n5 c5]) t, rBlk g6 26 #[.int .i64 ts, .slice A4 n4 c4, .slice A5 n5 c5]]) := Lib.hid (by rw [← hg6, ← hw4]; exact (HS2.out.call s3).alloc _ _)
  clear s3 HS2 q1 q3
  go_upto_region 6 with (fail)
  try rw [hg6]
  try rw [hw4]
  clear hw4 hg6 hg3 hg4
  have q3 : ∀ j, w4.cell? ⟨g4, j, none⟩ = _ := HS4.out.cells 3 rfl
  have q5 : ∀ j, w4.cell? ⟨g6, j, none⟩ = _ := HS4.out.cells 5 rfl
  go_wp2_with fail
  refine (sameTask_any _ t _ t _ (HS4.out.rdT 2 rfl) (HS4.out.rdT 4 rfl)).mono ?_
  rw [decide_eq_true rfl]
  rintro e w5 ⟨rfl, hb5⟩
  have HS5 : Hid (St w w5 [rGraph (.agg #[.slice A1 n1 c1]) ys, rBlk g3 37 #[.slice A1 n1 c1], rTask (.agg #[.int .i64 ts, .slice A2 n2 c2, .slice A3 n3 c3]) t, rBlk g4 26 #[.int .i64 ts, .slice A2 n2 c2, .slice A3 n3 c3]]) := Lib.hid ((HS4.out.quiet hb5).pick [0, 1, 2, 3] (by decide) rfl rfl)
  clear hb5 HS4 q3 q5
  have q1 : ∀ j, w5.cell? ⟨g3, j, none⟩ = _ := HS5.out.cells 1 rfl
  have q3 : ∀ j, w5.cell? ⟨g4, j, none⟩ = _ := HS5.out.cells 3 rfl
  cases ok with
  | false =>
    have hgl : n2 = 0 := by
      rw [← RdTM.goalLen (HS5.out.rdT 2 rfl), ← HT.out]
      unfold crossTask
      rw [HOK.out]
      rfl
    subst hgl
    go_wp2_with fail
    refine (alive_any _).mono ?_
    rintro e wa ⟨rfl, hba⟩
    have HSA := Lib.hid (HS5.out.quiet hba).below
    clear hba
    go_wp2
    go_ret
    exact ⟨rfl, HSA.out⟩
  | true =>
    have htt : t = crossT ys := by rw [← HT.out]; unfold crossTask; rw [HOK.out]; rfl
    obtain ⟨l1, l2, l3⟩ := cross_law HOK.out
    obtain ⟨r1, r2⟩ := cross_reach HOK.out
    obtain ⟨-, -, tk⟩ := crossOk_parts HOK.out
    rw [← htt] at l1 l2 l3 r1 r2 tk
    obtain ⟨can, hcan⟩ : ∃ y, (planFor t).isSome = y := ⟨_, rfl⟩
    obtain ⟨cv, hcv⟩ : ∃ y, coverLeast ys = y := ⟨_, rfl⟩
    obtain ⟨N, hN⟩ : ∃ y, iterM (fwdM t.deeds) 32 1 = y := ⟨_, rfl⟩
    rw [hcan, hcv] at l1 l2
    rw [hN] at r1 r2 l3
    have HCAN := Bx.mk hcan
    have HCV := Bx.mk hcv
    have HL1 := Bx.mk l1
    have HL2 := Bx.mk l2
    have HL3 := Bx.mk l3
    have HRE := Bx.mk r1
    have HTK := Bx.mk tk
    clear l1 l2 l3 r1 hcan hcv hN htt tk
    go_wp2_with fail
    refine (planFor_impl _ t _ (HS5.out.rdT 2 rfl)).mono ?_
    rw [HCAN.out]
    rintro e w6 ⟨v6, rfl, s6⟩
    have HS6 : Hid (St w w6 [rGraph (.agg #[.slice A1 n1 c1]) ys, rBlk g3 37 #[.slice A1 n1 c1], rTask (.agg #[.int .i64 ts, .slice A2 n2 c2, .slice A3 n3 c3]) t, rBlk g4 26 #[.int .i64 ts, .slice A2 n2 c2, .slice A3 n3 c3]]) := Lib.hid ((HS5.out.call s6).pick [0, 1, 2, 3] (by decide) rfl rfl)
    clear s6 HS5 q1 q3
    have q1 : ∀ j, w6.cell? ⟨g3, j, none⟩ = _ := HS6.out.cells 1 rfl
    have q3 : ∀ j, w6.cell? ⟨g4, j, none⟩ = _ := HS6.out.cells 3 rfl
    go_wp2_with fail
    refine (coverLeast_impl A1 n1 c1 ys _ (HS6.out.rdG 0 rfl).ints.1).mono ?_
    rw [HCV.out]
    rintro e w7 ⟨rfl, hb7⟩
    have HS7 := Lib.hid (HS6.out.quiet hb7)
    clear hb7 HS6 q1 q3
    have q3 : ∀ j, w7.cell? ⟨g4, j, none⟩ = _ := HS7.out.cells 3 rfl
    by_cases hc1 : 1 < cv
    · have hcan := HL1.out hc1
      subst hcan
      have hc0 : (cv == 0) = false := by simp; omega
      go_upto_region 14 with (fail)
      go_wp2_with fail
      refine (reached_impl _ t _ (HS7.out.rdT 2 rfl)).mono ?_
      rw [HRE.out]
      rintro e w8 ⟨rfl, hb8⟩
      have HS8 : Hid (St w w8 [rTask (.agg #[.int .i64 ts, .slice A2 n2 c2, .slice A3 n3 c3]) t, rBlk g4 26 #[.int .i64 ts, .slice A2 n2 c2, .slice A3 n3 c3]]) := Lib.hid ((HS7.out.quiet hb8).pick [2, 3] (by decide) rfl rfl)
      clear hb8 HS7 q3
      obtain ⟨h3l, h3c, h3m⟩ := RdTM.deedsLen (HS8.out.rdT 0 rfl)
      unfold maxLen at h3m
      clear h3l
      go_wp2
      go_loopw [12] (fun i wr => ∃ s : Nat, s ≤ 32 ∧ i = .int .i64 s ∧ St w wr [rTask (.agg #[.int .i64 ts, .slice A2 n2 c2, .slice A3 n3 c3]) t, rBlk g4 26 #[.int .i64 ts, .slice A2 n2 c2, .slice A3 n3 c3]]) (fun i _ => 32 - (intOf i).toNat)
      case atStart => exact ⟨0, by omega, rfl, HS8.out⟩
      case round =>
        clear HS8
        obtain ⟨s, hs, rfl, S⟩ := hrel
        have HS := Lib.hid S
        clear S
        by_cases hlt : s < 32
        · have hsi : (s : Int) < 32 := by omega
          go_wp2
          go_loopw [13] (fun i wv => ∃ k : Nat, k ≤ n3 ∧ i = .int .i64 k ∧ St w wv [rTask (.agg #[.int .i64 ts, .slice A2 n2 c2, .slice A3 n3 c3]) t, rBlk g4 26 #[.int .i64 ts, .slice A2 n2 c2, .slice A3 n3 c3]]) (fun i _ => n3 - (intOf i).toNat)
          case atStart => exact ⟨0, by omega, rfl, HS.out⟩
          case round =>
            clear HS
            obtain ⟨k, hk, rfl, S⟩ := hrel
            have HS := Lib.hid S
            clear S
            have q3 : ∀ j, wr.cell? ⟨g4, j, none⟩ = _ := HS.out.cells 1 rfl
            obtain ⟨bt, hbt⟩ : ∃ y, bit N s = y := ⟨_, rfl⟩
            have htm : ((N : Int) / 2 ^ s).tmod 2 = (bt : Int) := by rw [tmod2, hbt]
            have hbl : bt < 2 := by rw [← hbt]; exact bit_lt N s
            have HBT := Bx.mk hbt
            clear hbt
            by_cases hkl : k < n3
            · have hki : (k : Int) < (n3 : Int) := by omega
              by_cases hb1 : bt = 1
              · subst hb1
                obtain ⟨b, off, d, hA, hb, hd, hat⟩ := (HS.out.rdT 0 rfl).deedAt hkl
                obtain ⟨An, nn, cn, e0, e1, e2, e3, hnd, -, -, -, -⟩ := hat
                subst hA
                have HND := Lib.hid hnd
                obtain ⟨tz, hto⟩ : ∃ y, deedDoZ d (s : Int) = y := ⟨_, rfl⟩
                have HTO := Bx.mk hto
                have hmem := List.mem_of_getElem? hd
                have HBACK : Bx (0 ≤ tz → deedDoZ d tz = (s : Int)) := Bx.mk fun h => by
                  rw [← hto] at h ⊢
                  exact deedDoZ_back (taskOk_parts _ HTK.out).2.2.2 hmem hlt (HL3.out s hlt HBT.out d hmem) h
                clear hto hd hmem hnd
                go_wp2_with fail
                refine (deedDo_impl An nn cn d (s : Int) _ HND.out).mono ?_
                rw [HTO.out]
                rintro e wx ⟨rfl, hbx⟩
                have HSX := Lib.hid (HS.out.quiet hbx)
                have HBX := Lib.hid hbx
                have e0 : wx.cell? ⟨b, off + k * 4, none⟩ = _ := (bcells hbx b _ hb).trans e0
                have e1 : wx.cell? ⟨b, off + k * 4 + 1, none⟩ = _ := (bcells hbx b _ hb).trans e1
                have e2 : wx.cell? ⟨b, off + k * 4 + 2, none⟩ = _ := (bcells hbx b _ hb).trans e2
                have e3 : wx.cell? ⟨b, off + k * 4 + 3, none⟩ = _ := (bcells hbx b _ hb).trans e3
                clear hbx HS q3
                have q3 : ∀ j, wx.cell? ⟨g4, j, none⟩ = _ := HSX.out.cells 1 rfl
                by_cases h0 : 0 ≤ tz
                · go_wp2_with fail
                  refine (deedDo_impl An nn cn d tz _ (HND.out.up HBX.out)).mono ?_
                  rw [HBACK.out h0]
                  rintro e wy ⟨rfl, hby⟩
                  have HSY := Lib.hid (HSX.out.quiet hby)
                  clear hby HSX q3 e0 e1 e2 e3
                  go_wp2
                  go_roundw
                  case rel => exact ⟨k + 1, by omega, by go_num, HSY.out⟩
                  case measure => simp [intOf]; omega
                · clear e0 e1 e2 e3
                  go_wp2
                  go_roundw
                  case rel => exact ⟨k + 1, by omega, by go_num, HSX.out⟩
                  case measure => simp [intOf]; omega
              · obtain rfl : bt = 0 := by omega
                go_wp2
                go_roundw
                case rel => exact ⟨s + 1, by omega, by go_num, HS.out⟩
                case measure => simp [intOf]; omega
            · have hki : ¬ (k : Int) < (n3 : Int) := by omega
              go_wp2
              go_roundw
              case rel => exact ⟨s + 1, by omega, by go_num, HS.out⟩
              case measure => simp [intOf]; omega
        · have hsi : ¬ (s : Int) < 32 := by omega
          have q3 : ∀ j, wr.cell? ⟨g4, j, none⟩ = _ := HS.out.cells 1 rfl
          go_wp2_with fail
          refine (taskValid_impl _ t _ (HS.out.rdT 0 rfl)).mono ?_
          rw [HTK.out]
          rintro e w9 ⟨rfl, hb9⟩
          have HSA := Lib.hid (HS.out.quiet hb9).below
          clear hb9 HS
          go_wp2
          go_ret
          exact ⟨rfl, HSA.out⟩
    · by_cases hc0 : cv = 0
      · have hcan := HL2.out hc0
        subst hcan hc0
        go_upto_region 14 with (fail)
        go_wp2_with fail
        refine (reached_impl _ t _ (HS7.out.rdT 2 rfl)).mono ?_
        rw [HRE.out]
        rintro e w8 ⟨rfl, hb8⟩
        have HS8 : Hid (St w w8 [rTask (.agg #[.int .i64 ts, .slice A2 n2 c2, .slice A3 n3 c3]) t, rBlk g4 26 #[.int .i64 ts, .slice A2 n2 c2, .slice A3 n3 c3]]) := Lib.hid ((HS7.out.quiet hb8).pick [2, 3] (by decide) rfl rfl)
        clear hb8 HS7 q3
        obtain ⟨h3l, h3c, h3m⟩ := RdTM.deedsLen (HS8.out.rdT 0 rfl)
        unfold maxLen at h3m
        clear h3l
        go_wp2
        go_loopw [12] (fun i wr => ∃ s : Nat, s ≤ 32 ∧ i = .int .i64 s ∧ St w wr [rTask (.agg #[.int .i64 ts, .slice A2 n2 c2, .slice A3 n3 c3]) t, rBlk g4 26 #[.int .i64 ts, .slice A2 n2 c2, .slice A3 n3 c3]]) (fun i _ => 32 - (intOf i).toNat)
        case atStart => exact ⟨0, by omega, rfl, HS8.out⟩
        case round =>
          clear HS8
          obtain ⟨s, hs, rfl, S⟩ := hrel
          have HS := Lib.hid S
          clear S
          by_cases hlt : s < 32
          · have hsi : (s : Int) < 32 := by omega
            go_wp2
            go_loopw [13] (fun i wv => ∃ k : Nat, k ≤ n3 ∧ i = .int .i64 k ∧ St w wv [rTask (.agg #[.int .i64 ts, .slice A2 n2 c2, .slice A3 n3 c3]) t, rBlk g4 26 #[.int .i64 ts, .slice A2 n2 c2, .slice A3 n3 c3]]) (fun i _ => n3 - (intOf i).toNat)
            case atStart => exact ⟨0, by omega, rfl, HS.out⟩
            case round =>
              clear HS
              obtain ⟨k, hk, rfl, S⟩ := hrel
              have HS := Lib.hid S
              clear S
              have q3 : ∀ j, wr.cell? ⟨g4, j, none⟩ = _ := HS.out.cells 1 rfl
              obtain ⟨bt, hbt⟩ : ∃ y, bit N s = y := ⟨_, rfl⟩
              have htm : ((N : Int) / 2 ^ s).tmod 2 = (bt : Int) := by rw [tmod2, hbt]
              have hbl : bt < 2 := by rw [← hbt]; exact bit_lt N s
              have HBT := Bx.mk hbt
              clear hbt
              by_cases hkl : k < n3
              · have hki : (k : Int) < (n3 : Int) := by omega
                by_cases hb1 : bt = 1
                · subst hb1
                  obtain ⟨b, off, d, hA, hb, hd, hat⟩ := (HS.out.rdT 0 rfl).deedAt hkl
                  obtain ⟨An, nn, cn, e0, e1, e2, e3, hnd, -, -, -, -⟩ := hat
                  subst hA
                  have HND := Lib.hid hnd
                  obtain ⟨tz, hto⟩ : ∃ y, deedDoZ d (s : Int) = y := ⟨_, rfl⟩
                  have HTO := Bx.mk hto
                  have hmem := List.mem_of_getElem? hd
                  have HBACK : Bx (0 ≤ tz → deedDoZ d tz = (s : Int)) := Bx.mk fun h => by
                    rw [← hto] at h ⊢
                    exact deedDoZ_back (taskOk_parts _ HTK.out).2.2.2 hmem hlt (HL3.out s hlt HBT.out d hmem) h
                  clear hto hd hmem hnd
                  go_wp2_with fail
                  refine (deedDo_impl An nn cn d (s : Int) _ HND.out).mono ?_
                  rw [HTO.out]
                  rintro e wx ⟨rfl, hbx⟩
                  have HSX := Lib.hid (HS.out.quiet hbx)
                  have HBX := Lib.hid hbx
                  have e0 : wx.cell? ⟨b, off + k * 4, none⟩ = _ := (bcells hbx b _ hb).trans e0
                  have e1 : wx.cell? ⟨b, off + k * 4 + 1, none⟩ = _ := (bcells hbx b _ hb).trans e1
                  have e2 : wx.cell? ⟨b, off + k * 4 + 2, none⟩ = _ := (bcells hbx b _ hb).trans e2
                  have e3 : wx.cell? ⟨b, off + k * 4 + 3, none⟩ = _ := (bcells hbx b _ hb).trans e3
                  clear hbx HS q3
                  have q3 : ∀ j, wx.cell? ⟨g4, j, none⟩ = _ := HSX.out.cells 1 rfl
                  by_cases h0 : 0 ≤ tz
                  · go_wp2_with fail
                    refine (deedDo_impl An nn cn d tz _ (HND.out.up HBX.out)).mono ?_
                    rw [HBACK.out h0]
                    rintro e wy ⟨rfl, hby⟩
                    have HSY := Lib.hid (HSX.out.quiet hby)
                    clear hby HSX q3 e0 e1 e2 e3
                    go_wp2
                    go_roundw
                    case rel => exact ⟨k + 1, by omega, by go_num, HSY.out⟩
                    case measure => simp [intOf]; omega
                  · clear e0 e1 e2 e3
                    go_wp2
                    go_roundw
                    case rel => exact ⟨k + 1, by omega, by go_num, HSX.out⟩
                    case measure => simp [intOf]; omega
                · obtain rfl : bt = 0 := by omega
                  go_wp2
                  go_roundw
                  case rel => exact ⟨s + 1, by omega, by go_num, HS.out⟩
                  case measure => simp [intOf]; omega
              · have hki : ¬ (k : Int) < (n3 : Int) := by omega
                go_wp2
                go_roundw
                case rel => exact ⟨s + 1, by omega, by go_num, HS.out⟩
                case measure => simp [intOf]; omega
          · have hsi : ¬ (s : Int) < 32 := by omega
            have q3 : ∀ j, wr.cell? ⟨g4, j, none⟩ = _ := HS.out.cells 1 rfl
            go_wp2_with fail
            refine (taskValid_impl _ t _ (HS.out.rdT 0 rfl)).mono ?_
            rw [HTK.out]
            rintro e w9 ⟨rfl, hb9⟩
            have HSA := Lib.hid (HS.out.quiet hb9).below
            clear hb9 HS
            go_wp2
            go_ret
            exact ⟨rfl, HSA.out⟩
      · have hcb : (cv == 0) = false := by simp; exact hc0
        cases can with
        | true =>
          go_upto_region 14 with (fail)
          go_wp2_with fail
          refine (reached_impl _ t _ (HS7.out.rdT 2 rfl)).mono ?_
          rw [HRE.out]
          rintro e w8 ⟨rfl, hb8⟩
          have HS8 : Hid (St w w8 [rTask (.agg #[.int .i64 ts, .slice A2 n2 c2, .slice A3 n3 c3]) t, rBlk g4 26 #[.int .i64 ts, .slice A2 n2 c2, .slice A3 n3 c3]]) := Lib.hid ((HS7.out.quiet hb8).pick [2, 3] (by decide) rfl rfl)
          clear hb8 HS7 q3
          obtain ⟨h3l, h3c, h3m⟩ := RdTM.deedsLen (HS8.out.rdT 0 rfl)
          unfold maxLen at h3m
          clear h3l
          go_wp2
          go_loopw [12] (fun i wr => ∃ s : Nat, s ≤ 32 ∧ i = .int .i64 s ∧ St w wr [rTask (.agg #[.int .i64 ts, .slice A2 n2 c2, .slice A3 n3 c3]) t, rBlk g4 26 #[.int .i64 ts, .slice A2 n2 c2, .slice A3 n3 c3]]) (fun i _ => 32 - (intOf i).toNat)
          case atStart => exact ⟨0, by omega, rfl, HS8.out⟩
          case round =>
            clear HS8
            obtain ⟨s, hs, rfl, S⟩ := hrel
            have HS := Lib.hid S
            clear S
            by_cases hlt : s < 32
            · have hsi : (s : Int) < 32 := by omega
              go_wp2
              go_loopw [13] (fun i wv => ∃ k : Nat, k ≤ n3 ∧ i = .int .i64 k ∧ St w wv [rTask (.agg #[.int .i64 ts, .slice A2 n2 c2, .slice A3 n3 c3]) t, rBlk g4 26 #[.int .i64 ts, .slice A2 n2 c2, .slice A3 n3 c3]]) (fun i _ => n3 - (intOf i).toNat)
              case atStart => exact ⟨0, by omega, rfl, HS.out⟩
              case round =>
                clear HS
                obtain ⟨k, hk, rfl, S⟩ := hrel
                have HS := Lib.hid S
                clear S
                have q3 : ∀ j, wr.cell? ⟨g4, j, none⟩ = _ := HS.out.cells 1 rfl
                obtain ⟨bt, hbt⟩ : ∃ y, bit N s = y := ⟨_, rfl⟩
                have htm : ((N : Int) / 2 ^ s).tmod 2 = (bt : Int) := by rw [tmod2, hbt]
                have hbl : bt < 2 := by rw [← hbt]; exact bit_lt N s
                have HBT := Bx.mk hbt
                clear hbt
                by_cases hkl : k < n3
                · have hki : (k : Int) < (n3 : Int) := by omega
                  by_cases hb1 : bt = 1
                  · subst hb1
                    obtain ⟨b, off, d, hA, hb, hd, hat⟩ := (HS.out.rdT 0 rfl).deedAt hkl
                    obtain ⟨An, nn, cn, e0, e1, e2, e3, hnd, -, -, -, -⟩ := hat
                    subst hA
                    have HND := Lib.hid hnd
                    obtain ⟨tz, hto⟩ : ∃ y, deedDoZ d (s : Int) = y := ⟨_, rfl⟩
                    have HTO := Bx.mk hto
                    have hmem := List.mem_of_getElem? hd
                    have HBACK : Bx (0 ≤ tz → deedDoZ d tz = (s : Int)) := Bx.mk fun h => by
                      rw [← hto] at h ⊢
                      exact deedDoZ_back (taskOk_parts _ HTK.out).2.2.2 hmem hlt (HL3.out s hlt HBT.out d hmem) h
                    clear hto hd hmem hnd
                    go_wp2_with fail
                    refine (deedDo_impl An nn cn d (s : Int) _ HND.out).mono ?_
                    rw [HTO.out]
                    rintro e wx ⟨rfl, hbx⟩
                    have HSX := Lib.hid (HS.out.quiet hbx)
                    have HBX := Lib.hid hbx
                    have e0 : wx.cell? ⟨b, off + k * 4, none⟩ = _ := (bcells hbx b _ hb).trans e0
                    have e1 : wx.cell? ⟨b, off + k * 4 + 1, none⟩ = _ := (bcells hbx b _ hb).trans e1
                    have e2 : wx.cell? ⟨b, off + k * 4 + 2, none⟩ = _ := (bcells hbx b _ hb).trans e2
                    have e3 : wx.cell? ⟨b, off + k * 4 + 3, none⟩ = _ := (bcells hbx b _ hb).trans e3
                    clear hbx HS q3
                    have q3 : ∀ j, wx.cell? ⟨g4, j, none⟩ = _ := HSX.out.cells 1 rfl
                    by_cases h0 : 0 ≤ tz
                    · go_wp2_with fail
                      refine (deedDo_impl An nn cn d tz _ (HND.out.up HBX.out)).mono ?_
                      rw [HBACK.out h0]
                      rintro e wy ⟨rfl, hby⟩
                      have HSY := Lib.hid (HSX.out.quiet hby)
                      clear hby HSX q3 e0 e1 e2 e3
                      go_wp2
                      go_roundw
                      case rel => exact ⟨k + 1, by omega, by go_num, HSY.out⟩
                      case measure => simp [intOf]; omega
                    · clear e0 e1 e2 e3
                      go_wp2
                      go_roundw
                      case rel => exact ⟨k + 1, by omega, by go_num, HSX.out⟩
                      case measure => simp [intOf]; omega
                  · obtain rfl : bt = 0 := by omega
                    go_wp2
                    go_roundw
                    case rel => exact ⟨s + 1, by omega, by go_num, HS.out⟩
                    case measure => simp [intOf]; omega
                · have hki : ¬ (k : Int) < (n3 : Int) := by omega
                  go_wp2
                  go_roundw
                  case rel => exact ⟨s + 1, by omega, by go_num, HS.out⟩
                  case measure => simp [intOf]; omega
            · have hsi : ¬ (s : Int) < 32 := by omega
              have q3 : ∀ j, wr.cell? ⟨g4, j, none⟩ = _ := HS.out.cells 1 rfl
              go_wp2_with fail
              refine (taskValid_impl _ t _ (HS.out.rdT 0 rfl)).mono ?_
              rw [HTK.out]
              rintro e w9 ⟨rfl, hb9⟩
              have HSA := Lib.hid (HS.out.quiet hb9).below
              clear hb9 HS
              go_wp2
              go_ret
              exact ⟨rfl, HSA.out⟩
        | false =>
          go_upto_region 14 with (fail)
          go_wp2_with fail
          refine (reached_impl _ t _ (HS7.out.rdT 2 rfl)).mono ?_
          rw [HRE.out]
          rintro e w8 ⟨rfl, hb8⟩
          have HS8 : Hid (St w w8 [rTask (.agg #[.int .i64 ts, .slice A2 n2 c2, .slice A3 n3 c3]) t, rBlk g4 26 #[.int .i64 ts, .slice A2 n2 c2, .slice A3 n3 c3]]) := Lib.hid ((HS7.out.quiet hb8).pick [2, 3] (by decide) rfl rfl)
          clear hb8 HS7 q3
          obtain ⟨h3l, h3c, h3m⟩ := RdTM.deedsLen (HS8.out.rdT 0 rfl)
          unfold maxLen at h3m
          clear h3l
          go_wp2
          go_loopw [12] (fun i wr => ∃ s : Nat, s ≤ 32 ∧ i = .int .i64 s ∧ St w wr [rTask (.agg #[.int .i64 ts, .slice A2 n2 c2, .slice A3 n3 c3]) t, rBlk g4 26 #[.int .i64 ts, .slice A2 n2 c2, .slice A3 n3 c3]]) (fun i _ => 32 - (intOf i).toNat)
          case atStart => exact ⟨0, by omega, rfl, HS8.out⟩
          case round =>
            clear HS8
            obtain ⟨s, hs, rfl, S⟩ := hrel
            have HS := Lib.hid S
            clear S
            by_cases hlt : s < 32
            · have hsi : (s : Int) < 32 := by omega
              go_wp2
              go_loopw [13] (fun i wv => ∃ k : Nat, k ≤ n3 ∧ i = .int .i64 k ∧ St w wv [rTask (.agg #[.int .i64 ts, .slice A2 n2 c2, .slice A3 n3 c3]) t, rBlk g4 26 #[.int .i64 ts, .slice A2 n2 c2, .slice A3 n3 c3]]) (fun i _ => n3 - (intOf i).toNat)
              case atStart => exact ⟨0, by omega, rfl, HS.out⟩
              case round =>
                clear HS
                obtain ⟨k, hk, rfl, S⟩ := hrel
                have HS := Lib.hid S
                clear S
                have q3 : ∀ j, wr.cell? ⟨g4, j, none⟩ = _ := HS.out.cells 1 rfl
                obtain ⟨bt, hbt⟩ : ∃ y, bit N s = y := ⟨_, rfl⟩
                have htm : ((N : Int) / 2 ^ s).tmod 2 = (bt : Int) := by rw [tmod2, hbt]
                have hbl : bt < 2 := by rw [← hbt]; exact bit_lt N s
                have HBT := Bx.mk hbt
                clear hbt
                by_cases hkl : k < n3
                · have hki : (k : Int) < (n3 : Int) := by omega
                  by_cases hb1 : bt = 1
                  · subst hb1
                    obtain ⟨b, off, d, hA, hb, hd, hat⟩ := (HS.out.rdT 0 rfl).deedAt hkl
                    obtain ⟨An, nn, cn, e0, e1, e2, e3, hnd, -, -, -, -⟩ := hat
                    subst hA
                    have HND := Lib.hid hnd
                    obtain ⟨tz, hto⟩ : ∃ y, deedDoZ d (s : Int) = y := ⟨_, rfl⟩
                    have HTO := Bx.mk hto
                    have hmem := List.mem_of_getElem? hd
                    have HBACK : Bx (0 ≤ tz → deedDoZ d tz = (s : Int)) := Bx.mk fun h => by
                      rw [← hto] at h ⊢
                      exact deedDoZ_back (taskOk_parts _ HTK.out).2.2.2 hmem hlt (HL3.out s hlt HBT.out d hmem) h
                    clear hto hd hmem hnd
                    go_wp2_with fail
                    refine (deedDo_impl An nn cn d (s : Int) _ HND.out).mono ?_
                    rw [HTO.out]
                    rintro e wx ⟨rfl, hbx⟩
                    have HSX := Lib.hid (HS.out.quiet hbx)
                    have HBX := Lib.hid hbx
                    have e0 : wx.cell? ⟨b, off + k * 4, none⟩ = _ := (bcells hbx b _ hb).trans e0
                    have e1 : wx.cell? ⟨b, off + k * 4 + 1, none⟩ = _ := (bcells hbx b _ hb).trans e1
                    have e2 : wx.cell? ⟨b, off + k * 4 + 2, none⟩ = _ := (bcells hbx b _ hb).trans e2
                    have e3 : wx.cell? ⟨b, off + k * 4 + 3, none⟩ = _ := (bcells hbx b _ hb).trans e3
                    clear hbx HS q3
                    have q3 : ∀ j, wx.cell? ⟨g4, j, none⟩ = _ := HSX.out.cells 1 rfl
                    by_cases h0 : 0 ≤ tz
                    · go_wp2_with fail
                      refine (deedDo_impl An nn cn d tz _ (HND.out.up HBX.out)).mono ?_
                      rw [HBACK.out h0]
                      rintro e wy ⟨rfl, hby⟩
                      have HSY := Lib.hid (HSX.out.quiet hby)
                      clear hby HSX q3 e0 e1 e2 e3
                      go_wp2
                      go_roundw
                      case rel => exact ⟨k + 1, by omega, by go_num, HSY.out⟩
                      case measure => simp [intOf]; omega
                    · clear e0 e1 e2 e3
                      go_wp2
                      go_roundw
                      case rel => exact ⟨k + 1, by omega, by go_num, HSX.out⟩
                      case measure => simp [intOf]; omega
                  · obtain rfl : bt = 0 := by omega
                    go_wp2
                    go_roundw
                    case rel => exact ⟨s + 1, by omega, by go_num, HS.out⟩
                    case measure => simp [intOf]; omega
                · have hki : ¬ (k : Int) < (n3 : Int) := by omega
                  go_wp2
                  go_roundw
                  case rel => exact ⟨s + 1, by omega, by go_num, HS.out⟩
                  case measure => simp [intOf]; omega
            · have hsi : ¬ (s : Int) < 32 := by omega
              have q3 : ∀ j, wr.cell? ⟨g4, j, none⟩ = _ := HS.out.cells 1 rfl
              go_wp2_with fail
              refine (taskValid_impl _ t _ (HS.out.rdT 0 rfl)).mono ?_
              rw [HTK.out]
              rintro e w9 ⟨rfl, hb9⟩
              have HSA := Lib.hid (HS.out.quiet hb9).below
              clear hb9 HS
              go_wp2
              go_ret
              exact ⟨rfl, HSA.out⟩
end Go.Proofs.Ytdbgoekemffimaa
