/- The walk of FnLightsTask. Printed by gen_lawlt.py. -/
import Derived.Test.YtfgebdioffeliaaSLawLA
import Derived.Test.YtfgebdioffeliaaSSkipU
import Derived.Test.YtfgebdioffeliaaSNum
import Derived.Test.YtfgebdioffeliaaSPlanForW
import Derived.Test.YtfgebdioffeliaaSFwd
import Derived.Test.YtfgebdioffeliaaSLights
import Derived.Test.YtfgebdioffeliaaSAlive
namespace Go.Proofs.Ytfgebdioffeliaa
set_option linter.unusedVariables false
set_option linter.unusedSimpArgs false
open Go.ChangeShapes Go.WideShapes Go.ChangeAt Go.RowKit

theorem fold_lt {n : Nat} (p : List Int) (h : ∀ x ∈ p, 0 ≤ x ∧ x < n) : ∀ a, a < 2 ^ n → p.foldl xorP a < 2 ^ n := by
  induction p with
  | nil => intro a ha; exact ha
  | cons x p ih =>
    intro a ha
    rw [List.foldl_cons]
    have hx := h x (List.mem_cons_self ..)
    refine ih (fun y hy => h y (List.mem_cons_of_mem _ hy)) _ (Nat.xor_lt_two_pow ha (Nat.pow_lt_pow_right (by omega) (by omega)))
theorem setOk_nat {xs : List Int} {b : Nat} (h : graphOk xs = true) (hb : b < 2 ^ xs.length) : setOk xs (b : Int) = true := by
  rw [setOk_iff]
  refine ⟨h, by omega, ?_⟩
  have : ((2 ^ xs.length : Nat) : Int) = (2 : Int) ^ xs.length := by push_cast; rfl
  omega
theorem setOk_lt {xs : List Int} {b : Nat} (h : setOk xs (b : Int) = true) : graphOk xs = true ∧ b < 2 ^ xs.length := by
  obtain ⟨h1, -, h3⟩ := (setOk_iff xs b).1 h
  have : ((2 ^ xs.length : Nat) : Int) = (2 : Int) ^ xs.length := by push_cast; rfl
  exact ⟨h1, by omega⟩
section
variable {xs : List Int} {sv : Nat}
theorem lights_good (h : setOk xs (sv : Int) = true) (h5 : xs.length ≤ 5) : taskOk (lightsTask xs sv) = true ∧ (lightsTask xs sv).goal ≠ [] ∧ (lightsTask xs sv).deeds.length = xs.length ∧ ∀ k d, (lightsTask xs sv).deeds[k]? = some d → deedDoZ d (sv : Int) = ((sv ^^^ rowF xs k : Nat) : Int) := by
  obtain ⟨hg, hlt⟩ := setOk_lt h
  have h1 := (graphOk_len xs hg).1
  have hok := taskL_ok h1 h5 (rowF_lt hg) hlt
  rw [lights_taskL h h5]
  refine ⟨hok, (goal_code ⟨xs.length, by omega⟩ h1).2, by simp [taskL, deedsL], fun k d hd => ?_⟩
  have hdok := (taskOk_parts _ hok).2.2.2 d (List.mem_of_getElem? hd)
  have hs := (taskOk_parts _ hok).1
  have hk : k < xs.length := by have := (List.getElem?_eq_some_iff.1 hd).1; simpa [taskL, deedsL] using this
  have e : d = deedL (rowF xs k : Nat) := by
    have : (taskL (rowF xs) xs.length sv).deeds[k]? = some (deedL (rowF xs k : Nat)) := by simp [taskL, deedsL, hk]
    rw [this] at hd; cases hd; rfl
  subst e
  unfold deedDoZ
  rw [if_pos ⟨hdok, by have := pow5_512 h5 hlt; unfold stIn; rw [decide_eq_true_eq]; omega⟩, Int.toNat_natCast, deedL_do]
  rfl
theorem lights_plan {p : List Int} (h : setOk xs (sv : Int) = true) (h5 : xs.length ≤ 5) (hp : planFor (lightsTask xs sv) = some p) :
    ∃ b f, outK xs sv (2 ^ xs.length) = some b ∧ popc b = p.length ∧ setOk xs (b : Int) = true ∧ mayB xs sv = true ∧ pressesOf p = ((f : Nat) : Int) ∧ setOk xs (f : Int) = true ∧ pressN xs f xs.length = sv := by
  obtain ⟨hg, hlt⟩ := setOk_lt h
  have h1 := (graphOk_len xs hg).1
  rw [lights_taskL h h5] at hp
  obtain ⟨a1, a2, a3, a4⟩ := light_plan h1 h5 (rowF_lt hg) hlt hp
  obtain ⟨b, hb⟩ := can_out.1 a1
  obtain ⟨b1, b2, -⟩ := outB_some hb
  have hf := fold_lt p a3 0 (Nat.two_pow_pos _)
  have hfew : fewN (rowF xs) xs.length sv = popc b := by unfold fewN; rw [hb]
  have hf5 := few_5 (row := rowF xs) h5 sv
  refine ⟨b, p.foldl xorP 0, hb, by rw [a2, hfew], setOk_nat hg b1, (mayB_iff hg hlt).2 a1, ?_, setOk_nat hg hf, a4⟩
  rw [pressesOf_good p (by omega) (fun j x hj => by have := a3 x (List.mem_of_getElem? hj); omega)]
  unfold foldP
  rw [List.take_length]
  rfl
theorem lights_noplan (h : setOk xs (sv : Int) = true) (h5 : xs.length ≤ 5) (hp : planFor (lightsTask xs sv) = none) :
    outK xs sv (2 ^ xs.length) = none ∧ mayB xs sv = false ∧ (∃ q ∈ quietL xs (2 ^ xs.length), popc (q.toNat &&& sv) % 2 = 1) ∧ ∀ q ∈ quietL xs (2 ^ xs.length), popc (q.toNat &&& sv) % 2 = 1 → sumOk (lightsTask xs sv) q = true := by
  obtain ⟨hg, hlt⟩ := setOk_lt h
  have h1 := (graphOk_len xs hg).1
  rw [lights_taskL h h5] at hp ⊢
  have hc := light_none h1 h5 (rowF_lt hg) hlt hp
  have hm : mayB xs sv = false := by
    cases e : mayB xs sv with
    | false => rfl
    | true => exact absurd ((mayB_iff hg hlt).1 e) hc
  refine ⟨?_, hm, ?_, fun x hx hodd => ?_⟩
  · cases e : outK xs sv (2 ^ xs.length) with
    | none => rfl
    | some b => exact absurd (can_out.2 ⟨b, e⟩) hc
  · have hm2 := hm
    unfold mayB at hm2
    rw [List.all_eq_false] at hm2
    obtain ⟨x, hx, hn⟩ := hm2
    refine ⟨x, hx, ?_⟩
    have : ¬ popc (x.toNat &&& sv) % 2 = 0 := by simpa using hn
    omega
  · obtain ⟨k, hk⟩ := List.mem_iff_getElem?.1 hx
    obtain ⟨q, rfl, h2, h3⟩ := quietL_at hk
    exact lights_sum hg h5 hlt h2 h3 hodd
end
set_option maxRecDepth 100000 in
set_option maxHeartbeats 1000000 in
theorem FnLightsTask_walk (A : Option Addr) (n c : Nat) (xs : List Int) (w : World) (h : RdI .u8 w w.heap.size A n c xs) :
    Calls Try.prog 3 #[.slice A n c] w fun e w' => e = .returned (.bool true) ∧ Below w.heap.size w w' := by
  have hcap := h.cap
  have hmax := h.capMax
  unfold maxLen at hmax
  have H := Lib.hid h
  clear h
  by_cases hn : n ≤ 1048576
  case neg =>
    go_enter Try.func3, Try.ntmps3
    go_wp2
    go_ret
    exact ⟨rfl, Below.refl _ _⟩
  go_enter Try.func3, Try.ntmps3
  go_wp2_with fail
  refine (drawLightsTask A n c xs _ H.out).mono ?_
  rintro e w1 ⟨v1, ys, sv, rfl, hsv, s1⟩
  obtain ⟨A3, n3, c3, hv⟩ := s1.formG 0 rfl
  subst hv
  obtain ⟨B1, hB1⟩ : ∃ B1, w1.heap.size = B1 := ⟨_, rfl⟩
  have HS1 : Hid (St w (w1.alloc (.cells #[.slice A3 n3 c3] 25)) [rGraph (.agg #[.slice A3 n3 c3]) ys, rBlk B1 25 #[.slice A3 n3 c3]]) := Lib.hid (by rw [← hB1]; exact s1.alloc _ _)
  clear s1
  have HL := Bx.mk (HS1.out.rdG 0 rfl).ints.1.len
  have HWF : Bx ((Lit.int .i64 (sv : Int)).wf = true) := Bx.mk (wf_i64_mk (by omega))
  obtain ⟨t, hx⟩ : ∃ t, lightsTask ys (sv : Int) = t := ⟨_, rfl⟩
  have HX := Bx.mk hx
  try rw [hB1]
  have q1 : ∀ j, (w1.alloc (.cells #[.slice A3 n3 c3] 25)).cell? ⟨B1, j, none⟩ = _ := HS1.out.cells 1 rfl
  go_wp2_with fail
  refine (lightsTask_impl A3 n3 c3 ys (sv : Int) _ (HS1.out.rdG 0 rfl).ints.1 HWF.out).mono ?_
  rw [hx]
  rintro e w2 ⟨v2, rfl, s2⟩
  obtain ⟨A1, j1, c1, A2, j2, c2, hv⟩ := s2.formT 0 rfl
  simp only [id_eq] at hv ⊢
  subst hv
  obtain ⟨B2, hB2⟩ : ∃ B2, w2.heap.size = B2 := ⟨_, rfl⟩
  have HS2 : Hid (St w (w2.alloc (.cells #[.int .i64 t.start, .slice A1 j1 c1, .slice A2 j2 c2] 30)) [rGraph (.agg #[.slice A3 n3 c3]) ys, rBlk B1 25 #[.slice A3 n3 c3], rTask (.agg #[.int .i64 t.start, .slice A1 j1 c1, .slice A2 j2 c2]) t, rBlk B2 30 #[.int .i64 t.start, .slice A1 j1 c1, .slice A2 j2 c2]]) := Lib.hid (by rw [← hB2]; exact ((HS1.out.call s2).alloc #[.int .i64 t.start, .slice A1 j1 c1, .slice A2 j2 c2] 30).pick [0, 1, 2, 3] (by decide) rfl rfl)
  clear s2 HS1 hx q1
  have q1 : ∀ j, (w2.alloc (.cells #[.int .i64 t.start, .slice A1 j1 c1, .slice A2 j2 c2] 30)).cell? ⟨B1, j, none⟩ = _ := HS2.out.cells 1 rfl
  go_upto_region 5 with (fail)
  try rw [hB1]
  try rw [hB2]
  clear hB1 hB2 q1
  refine wp_reg (σ := Value) (by kernel_rfl) (by kernel_rfl) (by kernel_rfl)
    (fun s i => match i with
      | 0 => .agg #[.int .i64 t.start, .slice A1 j1 c1, .slice A2 j2 c2]
      | 1 => .agg #[.slice A3 n3 c3]
      | 2 => .int .i64 (sv : Nat)
      | 3 => s
      | 4 => .bool true
      | 5 => .bool false
      | _ => undef)
    (fun D s wx => Sn w wx fun i => match i with
      | 0 => some (rGraph (.agg #[.slice A3 n3 c3]) ys)
      | 1 => some (rBlk B1 25 #[.slice A3 n3 c3])
      | 2 => some (rTask (.agg #[.int .i64 t.start, .slice A1 j1 c1, .slice A2 j2 c2]) t)
      | 3 => some (rBlk B2 30 #[.int .i64 t.start, .slice A1 j1 c1, .slice A2 j2 c2])
      | 4 => if D 3 = true then some (rTask s t) else none
      | _ => none)
    undef ?_ ?_ ?_
  · intro D hD
    refine ((Sn.of_st HS2.out).quiet ((Below.refl _ _).drew)).congr fun i => ?_
    match i with
    | 0 => rfl
    | 1 => rfl
    | 2 => rfl
    | 3 => rfl
    | 4 => exact if_neg (by rw [hD 3 (by decide)]; simp)
    | q + 5 => rfl
  · refine StepAll.cons (fun D s wx hR (hDi : D 0 = false) hd hsh a' hs K hK => ?_) ?_
    · have e5 := hs.old 5 (u := .pointer (some ⟨B2, 0, none⟩)) (by kernel_rfl) rfl
      clear hs
      have kb : Blk wx (B2) 30 #[.int .i64 t.start, .slice A1 j1 c1, .slice A2 j2 c2] := hR.blk 3 rfl
      have c0 : wx.cell? ⟨B2, 0, none⟩ = some (.int .i64 t.start) := kb.cell 0
      have c1 : wx.cell? ⟨B2, 1, none⟩ = some (.slice A1 j1 c1) := kb.cell 1
      have c2 : wx.cell? ⟨B2, 2, none⟩ = some (.slice A2 j2 c2) := kb.cell 2
      go_simp
      exact hK s wx (fun _ _ => rfl) hR
    refine StepAll.cons (fun D s wx hR (hDi : D 1 = false) hd hsh a' hs K hK => ?_) ?_
    · have e3 := hs.old 3 (u := .pointer (some ⟨B1, 0, none⟩)) (by kernel_rfl) rfl
      clear hs
      have kb : Blk wx (B1) 25 #[.slice A3 n3 c3] := hR.blk 1 rfl
      have c0 : wx.cell? ⟨B1, 0, none⟩ = some (.slice A3 n3 c3) := kb.cell 0
      go_simp
      exact hK s wx (fun _ _ => rfl) hR
    refine StepAll.cons (fun D s wx hR (hDi : D 2 = false) hd hsh a' hs K hK => ?_) ?_
    · have e4 := hs.old 4 (u := .int .i64 (sv : Nat)) (by kernel_rfl) rfl
      clear hs
      go_simp
      exact hK s wx (fun _ _ => rfl) hR
    refine StepAll.cons (fun D s wx hR (hDi : D 3 = false) hd hsh a' hs K hK => ?_) ?_
    · have e23 := hs.at_ 1 23 (u := .agg #[.slice A3 n3 c3]) rfl (hd ⟨1, .data⟩ (by simp) rfl) (by kernel_rfl) (by kernel_rfl) rfl
      have e24 := hs.at_ 2 24 (u := .int .i64 (sv : Nat)) rfl (hd ⟨2, .data⟩ (by simp) rfl) (by kernel_rfl) (by kernel_rfl) rfl
      have g23 := getQ e23
      have g24 := getQ e24
      clear hs
      have n4 : D 4 = false := hsh.no hDi 4 rfl ⟨3, .data⟩ (by simp) rfl rfl
      have n5 : D 5 = false := hsh.no n4 5 rfl ⟨4, .data⟩ (by simp) rfl rfl
      go_simp
      refine (lightsTask_spec A3 n3 c3 ys (sv : Int) _ (hR.rdG 0 rfl).ints.1 HWF.out).mono ?_
      rw [HX.out]
      rintro e2 w2 ⟨v2, rfl, s2⟩
      refine hK v2 w2
        (fun j hj => by
          match j, hj with
          | 0, hj => rfl
          | 1, hj => rfl
          | 2, hj => rfl
          | 3, hj => rw [hDi] at hj; cases hj
          | 4, hj => rfl
          | 5, hj => rfl
          | _ + 6, hj => rfl)
        ((hR.add 4 (if_neg (by rw [hDi]; simp)) s2).congr
          (fun i => by
            match i with
            | 0 => rfl
            | 1 => rfl
            | 2 => rfl
            | 3 => rfl
            | 4 => rfl
            | q + 5 => exact (if_neg (show ¬ (q + 5 = 4) by omega)).symm))
    refine StepAll.cons (fun D s wx hR (hDi : D 4 = false) hd hsh a' hs K hK => ?_) ?_
    · have e22 := hs.at_ 0 22 (u := .agg #[.int .i64 t.start, .slice A1 j1 c1, .slice A2 j2 c2]) rfl (hd ⟨0, .data⟩ (by simp) rfl) (by kernel_rfl) (by kernel_rfl) rfl
      have e25 := hs.at_ 3 25 (u := s) rfl (hd ⟨3, .data⟩ (by simp) rfl) (by kernel_rfl) (by kernel_rfl) rfl
      have g22 := getQ e22
      have g25 := getQ e25
      clear hs
      have d2 : D 3 = true := hd ⟨3, .data⟩ (by simp) rfl
      go_simp
      refine (sameTask_any _ t s t _ (hR.rdT 2 rfl) (hR.rdT 4 (if_pos d2))).mono ?_
      try rw [decide_eq_true rfl]
      rintro e2 w2 ⟨rfl, hb2⟩
      exact hK s w2 (fun _ _ => rfl) (hR.quiet hb2)
    refine StepAll.cons (fun D s wx hR (hDi : D 5 = false) hd hsh a' hs K hK => ?_) ?_
    · have e26 := hs.at_ 4 26 (u := .bool true) rfl (hd ⟨4, .data⟩ (by simp) rfl) (by kernel_rfl) (by kernel_rfl) rfl
      clear hs
      go_simp
      exact hK s wx (fun _ _ => rfl) hR
    exact StepAll.nil
  · intro D s wx hR hD
    simp only [putA, Act.put, List.setIfInBounds_toArray, List.set_cons_zero, List.set_cons_succ]
    have HS : Hid (St w wx [rGraph (.agg #[.slice A3 n3 c3]) ys, rBlk B1 25 #[.slice A3 n3 c3], rTask (.agg #[.int .i64 t.start, .slice A1 j1 c1, .slice A2 j2 c2]) t, rBlk B2 30 #[.int .i64 t.start, .slice A1 j1 c1, .slice A2 j2 c2]]) := Lib.hid (hR.to_st [0, 1, 2, 3] (by decide) rfl)
    clear hR hD

    have q1 : ∀ j, wx.cell? ⟨B1, j, none⟩ = _ := HS.out.cells 1 rfl
    have q2 : ∀ j, wx.cell? ⟨B2, j, none⟩ = _ := HS.out.cells 3 rfl
    obtain ⟨hj1, hj2⟩ : t.goal.length = j1 ∧ t.deeds.length = j2 := by
      obtain ⟨G, gn, gc, G', n', c', he, hg, -, hds, -⟩ := HS.out.rdT 2 rfl
      have hl := hg.len
      have hl2 := hds.len
      simp only [Value.agg.injEq, Array.mk.injEq, List.cons.injEq, Value.slice.injEq, and_true, true_and] at he
      omega
    by_cases hok : setOk ys (sv : Int) = true ∧ ys.length ≤ 5
    case neg =>
      have hz : j1 = 0 := by rw [← hj1, ← HX.out]; unfold lightsTask; rw [if_neg hok]; rfl
      subst hz
      clear hj1 hj2 hok
      go_wp2_with fail
      refine (alive_any _).mono ?_
      rintro e w5 ⟨rfl, hb5⟩
      have HS5 := Lib.hid (HS.out.quiet hb5).below
      clear hb5
      go_wp2
      go_ret
      exact ⟨rfl, HS5.out⟩
    obtain ⟨hok, h5⟩ := hok
    obtain ⟨htok, hgne, hdl, hdd⟩ := lights_good hok h5
    rw [HX.out] at htok hgne hdl hdd
    have hj0 : ¬ (j1 : Int) = 0 := by
      intro e
      have : t.goal.length = 0 := by omega
      exact hgne (List.length_eq_zero_iff.1 this)
    have HOK := Bx.mk hok
    have H5 := Bx.mk h5
    have HTOK := Bx.mk htok
    have HDDA := Lib.hid hdd
    have hj23 : j2 = n3 := by rw [← hj2, hdl, HL.out]
    subst hj23
    have hn5 : j2 ≤ 5 := by rw [← HL.out]; exact h5
    clear hok h5 htok hgne hdl hdd hj1 hj2
    go_wp2
    go_loopw [6] (fun i wr => ∃ k : Nat, k ≤ j2 ∧ i = .int .i64 k ∧ St w wr [rGraph (.agg #[.slice A3 j2 c3]) ys, rBlk B1 25 #[.slice A3 j2 c3], rTask (.agg #[.int .i64 t.start, .slice A1 j1 c1, .slice A2 j2 c2]) t, rBlk B2 30 #[.int .i64 t.start, .slice A1 j1 c1, .slice A2 j2 c2]]) (fun i _ => j2 - (intOf i).toNat)
    case atStart => exact ⟨0, by omega, rfl, HS.out⟩
    case round =>
      clear HS q1 q2
      obtain ⟨k, hk, rfl, S⟩ := hrel
      have HS := Lib.hid S
      clear S
      by_cases hlt3 : k < j2
      · have k1 := HS.out.blk 1 rfl
        have k2 := HS.out.blk 3 rfl
        have q2 : ∀ j, wr.cell? ⟨B2, j, none⟩ = _ := HS.out.cells 3 rfl
        have hb1 : B1 < wr.heap.size := k1.lt
        have hb2 : B2 < wr.heap.size := k2.lt
        have HB1 := Bx.mk hb1
        have HB2 := Bx.mk hb2
        obtain ⟨G, gn, gc, G', n', c', he, -, -, hds, -⟩ := HS.out.rdT 2 rfl
        simp only [Value.agg.injEq, Array.mk.injEq, List.cons.injEq, Value.slice.injEq, and_true, true_and] at he
        obtain ⟨-, rfl, rfl, rfl⟩ := he
        obtain ⟨b, off, d, rfl, hbl, hd, An, nn, cn, p0, p1, p2, p3, hneed, -⟩ := hds.get hlt3
        have HG0 := Bx.mk (k1.cell 0)
        have HT2 := Bx.mk (k2.cell 2)
        have HBL := Bx.mk hbl
        have HD0 := Bx.mk p0
        have HD1 := Bx.mk p1
        have HD2 := Bx.mk p2
        have HD3 := Bx.mk p3
        have HN := Lib.hid hneed
        have HRG := Lib.hid (HS.out.rdG 0 rfl).ints.1
        have hdx := HDDA.out k d hd
        obtain ⟨x, hx⟩ : ∃ x, sv ^^^ rowF ys k = x := ⟨_, rfl⟩
        have HXX := Bx.mk hx
        rw [hx] at hdx
        have HDD := Bx.mk hdx
        clear k1 k2 hb1 hb2 hds hbl hd p0 p1 p2 p3 hneed hdx hx
        go_upto_region 12 with (fail)
        refine wp_reg (σ := Unit) (by kernel_rfl) (by kernel_rfl) (by kernel_rfl)
          (fun _ i => match i with
            | 0 => .pointer (some ⟨B2, 2, none⟩)
            | 1 => .slice (some ⟨b, off, none⟩) j2 c2
            | 2 => .int .i64 (k : Nat)
            | 3 => .pointer (some ⟨b, off + k * 4, none⟩)
            | 4 => .agg #[.slice An nn cn, .int .i64 d.on, .int .i64 d.off, .int .i64 d.flip]
            | 5 => .int .i64 (sv : Nat)
            | 6 => .int .i64 (x : Nat)
            | 7 => .agg #[.slice A3 j2 c3]
            | 8 => .int .i64 (sv : Nat)
            | 9 => .int .i64 (k : Nat)
            | 10 => .int .i64 (x : Nat)
            | 11 => .bool false
            | _ => undef)
          (fun D _ wx => Below wr.heap.size wr wx)
          () ?_ ?_ ?_
        · intro D hD
          exact (Below.refl _ _).drew
        · refine StepAll.cons (fun D s wx hR (hDi : D 0 = false) hd hsh a' hs K hK => ?_) ?_
          · have e5 := hs.old 5 (u := .pointer (some ⟨B2, 0, none⟩)) (by kernel_rfl) rfl
            clear hs
            go_simp
            exact hK () wx (fun _ _ => rfl) hR
          refine StepAll.cons (fun D s wx hR (hDi : D 1 = false) hd hsh a' hs K hK => ?_) ?_
          · have e40 := hs.at_ 0 40 (u := .pointer (some ⟨B2, 2, none⟩)) rfl (hd ⟨0, .data⟩ (by simp) rfl) (by kernel_rfl) (by kernel_rfl) rfl
            clear hs
            have c0 : wx.cell? ⟨B2, 2, none⟩ = some (.slice (some ⟨b, off, none⟩) j2 c2) := (bcells hR _ _ HB2.out).trans HT2.out
            go_simp
            exact hK () wx (fun _ _ => rfl) hR
          refine StepAll.cons (fun D s wx hR (hDi : D 2 = false) hd hsh a' hs K hK => ?_) ?_
          · have e6 := hs.old 6 (u := .int .i64 (k : Nat)) (by kernel_rfl) rfl
            clear hs
            go_simp
            exact hK () wx (fun _ _ => rfl) hR
          refine StepAll.cons (fun D s wx hR (hDi : D 3 = false) hd hsh a' hs K hK => ?_) ?_
          · have e41 := hs.at_ 1 41 (u := .slice (some ⟨b, off, none⟩) j2 c2) rfl (hd ⟨1, .data⟩ (by simp) rfl) (by kernel_rfl) (by kernel_rfl) rfl
            have e42 := hs.at_ 2 42 (u := .int .i64 (k : Nat)) rfl (hd ⟨2, .data⟩ (by simp) rfl) (by kernel_rfl) (by kernel_rfl) rfl
            clear hs
            go_simp
            exact hK () wx (fun _ _ => rfl) hR
          refine StepAll.cons (fun D s wx hR (hDi : D 4 = false) hd hsh a' hs K hK => ?_) ?_
          · have e43 := hs.at_ 3 43 (u := .pointer (some ⟨b, off + k * 4, none⟩)) rfl (hd ⟨3, .data⟩ (by simp) rfl) (by kernel_rfl) (by kernel_rfl) rfl
            clear hs
            have c0 : wx.cell? ⟨b, off + k * 4, none⟩ = some (.slice An nn cn) := (bcells hR _ _ HBL.out).trans HD0.out
            have c1 : wx.cell? ⟨b, off + k * 4 + 1, none⟩ = some (.int .i64 d.on) := (bcells hR _ _ HBL.out).trans HD1.out
            have c2 : wx.cell? ⟨b, off + k * 4 + 2, none⟩ = some (.int .i64 d.off) := (bcells hR _ _ HBL.out).trans HD2.out
            have c3 : wx.cell? ⟨b, off + k * 4 + 3, none⟩ = some (.int .i64 d.flip) := (bcells hR _ _ HBL.out).trans HD3.out
            go_simp
            exact hK () wx (fun _ _ => rfl) hR
          refine StepAll.cons (fun D s wx hR (hDi : D 5 = false) hd hsh a' hs K hK => ?_) ?_
          · have e4 := hs.old 4 (u := .int .i64 (sv : Nat)) (by kernel_rfl) rfl
            clear hs
            go_simp
            exact hK () wx (fun _ _ => rfl) hR
          refine StepAll.cons (fun D s wx hR (hDi : D 6 = false) hd hsh a' hs K hK => ?_) ?_
          · have e44 := hs.at_ 4 44 (u := .agg #[.slice An nn cn, .int .i64 d.on, .int .i64 d.off, .int .i64 d.flip]) rfl (hd ⟨4, .data⟩ (by simp) rfl) (by kernel_rfl) (by kernel_rfl) rfl
            have e45 := hs.at_ 5 45 (u := .int .i64 (sv : Nat)) rfl (hd ⟨5, .data⟩ (by simp) rfl) (by kernel_rfl) (by kernel_rfl) rfl
            have g44 := getQ e44
            have g45 := getQ e45
            clear hs
            go_simp
            refine (deedDo_impl An nn cn d (sv : Int) _ (HN.out.up hR)).mono ?_
            rw [HDD.out]
            rintro e2 w2 ⟨rfl, hb2⟩
            exact hK () w2 (fun _ _ => rfl) (hR.trans (hb2.mono hR.size))
          refine StepAll.cons (fun D s wx hR (hDi : D 7 = false) hd hsh a' hs K hK => ?_) ?_
          · have e3 := hs.old 3 (u := .pointer (some ⟨B1, 0, none⟩)) (by kernel_rfl) rfl
            clear hs
            have c0 : wx.cell? ⟨B1, 0, none⟩ = some (.slice A3 j2 c3) := (bcells hR _ _ HB1.out).trans HG0.out
            go_simp
            exact hK () wx (fun _ _ => rfl) hR
          refine StepAll.cons (fun D s wx hR (hDi : D 8 = false) hd hsh a' hs K hK => ?_) ?_
          · have e4 := hs.old 4 (u := .int .i64 (sv : Nat)) (by kernel_rfl) rfl
            clear hs
            go_simp
            exact hK () wx (fun _ _ => rfl) hR
          refine StepAll.cons (fun D s wx hR (hDi : D 9 = false) hd hsh a' hs K hK => ?_) ?_
          · have e6 := hs.old 6 (u := .int .i64 (k : Nat)) (by kernel_rfl) rfl
            clear hs
            go_simp
            exact hK () wx (fun _ _ => rfl) hR
          refine StepAll.cons (fun D s wx hR (hDi : D 10 = false) hd hsh a' hs K hK => ?_) ?_
          · have e47 := hs.at_ 7 47 (u := .agg #[.slice A3 j2 c3]) rfl (hd ⟨7, .data⟩ (by simp) rfl) (by kernel_rfl) (by kernel_rfl) rfl
            have e48 := hs.at_ 8 48 (u := .int .i64 (sv : Nat)) rfl (hd ⟨8, .data⟩ (by simp) rfl) (by kernel_rfl) (by kernel_rfl) rfl
            have e49 := hs.at_ 9 49 (u := .int .i64 (k : Nat)) rfl (hd ⟨9, .data⟩ (by simp) rfl) (by kernel_rfl) (by kernel_rfl) rfl
            have g47 := getQ e47
            have g48 := getQ e48
            have g49 := getQ e49
            clear hs
            go_simp
            refine (pressDo_impl A3 j2 c3 ys sv k _ (HRG.out.up hR) HOK.out hlt3).mono ?_
            rw [HXX.out]
            rintro e2 w2 ⟨rfl, hb2⟩
            exact hK () w2 (fun _ _ => rfl) (hR.trans (hb2.mono hR.size))
          refine StepAll.cons (fun D s wx hR (hDi : D 11 = false) hd hsh a' hs K hK => ?_) ?_
          · have e46 := hs.at_ 6 46 (u := .int .i64 (x : Nat)) rfl (hd ⟨6, .data⟩ (by simp) rfl) (by kernel_rfl) (by kernel_rfl) rfl
            have e50 := hs.at_ 10 50 (u := .int .i64 (x : Nat)) rfl (hd ⟨10, .data⟩ (by simp) rfl) (by kernel_rfl) (by kernel_rfl) rfl
            clear hs
            go_simp
            exact hK () wx (fun _ _ => rfl) hR
          exact StepAll.nil
        · intro D s wx hR hD
          simp only [putA, Act.put, List.setIfInBounds_toArray, List.set_cons_zero, List.set_cons_succ]
          have HSB := Lib.hid (HS.out.quiet hR)
          clear hR hD HS
          go_wp2
          go_roundw
          case rel => exact ⟨k + 1, by omega, by go_num, HSB.out⟩
          case measure => simp [intOf]; omega
      · have hkn : k = j2 := by omega
        subst hkn
        have q1 : ∀ j, wr.cell? ⟨B1, j, none⟩ = _ := HS.out.cells 1 rfl
        have q2 : ∀ j, wr.cell? ⟨B2, j, none⟩ = _ := HS.out.cells 3 rfl
        obtain ⟨po, hpo⟩ : ∃ po, planFor t = po := ⟨_, rfl⟩
        have HPO := Bx.mk hpo
        go_wp2_with fail
        refine (planFor_impl _ t _ (HS.out.rdT 2 rfl)).mono ?_
        rw [hpo]
        rintro e w6 ⟨v6, rfl, s6⟩
        obtain ⟨pl, hpl⟩ : ∃ pl, po.getD [] = pl := ⟨_, rfl⟩
        rw [hpl] at s6
        obtain ⟨pm, hpm⟩ : ∃ pm, pl.length = pm := ⟨_, rfl⟩
        obtain ⟨P, pd, hv⟩ := s6.formL 0 rfl hpm
        subst hv
        have HS6 : Hid (St w w6 [rGraph (.agg #[.slice A3 k c3]) ys, rBlk B1 25 #[.slice A3 k c3], rTask (.agg #[.int .i64 t.start, .slice A1 j1 c1, .slice A2 k c2]) t, rBlk B2 30 #[.int .i64 t.start, .slice A1 j1 c1, .slice A2 k c2], rInts (.slice P pm pd) pl]) := Lib.hid ((HS.out.call s6).pick [0, 1, 2, 3, 4] (by decide) rfl rfl)
        clear s6 HS q1 q2 hpo
        have q1 : ∀ j, w6.cell? ⟨B1, j, none⟩ = _ := HS6.out.cells 1 rfl
        go_wp2_with fail
        refine (outBy_impl A3 k c3 ys sv _ (HS6.out.rdG 0 rfl).ints.1 HOK.out).mono ?_
        cases po with
        | some p =>
          have hpp : p = pl := hpl
          subst hpp
          obtain ⟨b, f, e1, e2, e3, e4, e5, e6, e7⟩ := lights_plan HOK.out H5.out (by rw [HX.out]; exact HPO.out)
          rw [HL.out] at e1 e7
          rw [hpm] at e2
          rw [e1]
          rintro e w7 ⟨rfl, hb7⟩
          have HS7 := Lib.hid (HS6.out.quiet hb7)
          have HPB := Bx.mk e2
          have HSB := Bx.mk e3
          have HMAY := Bx.mk e4
          have HPP := Bx.mk e5
          have HSF := Bx.mk e6
          have HPF := Bx.mk e7
          have HPL := Lib.hid (HS7.out.rdI' 4 rfl)
          clear hb7 HS6 q1 e1 e2 e3 e4 e5 e6 e7 hpl hpm
          have k1 := HS7.out.blk 1 rfl
          have k2 := HS7.out.blk 3 rfl
          have hb1 : B1 < w7.heap.size := k1.lt
          have hb2 : B2 < w7.heap.size := k2.lt
          have HB1 := Bx.mk hb1
          have HB2 := Bx.mk hb2
          have HG0 := Bx.mk (k1.cell 0)
          have HT0 := Bx.mk (k2.cell 0)
          have HT1 := Bx.mk (k2.cell 1)
          have HT2 := Bx.mk (k2.cell 2)
          have HTV := Lib.hid (HS7.out.rdT 2 rfl)
          have HRG := Lib.hid (HS7.out.rdG 0 rfl).ints.1
          clear k1 k2 hb1 hb2
          simp only [opt, Option.isSome_some]
          go_upto_region 16 with (fail)
          refine wp_reg (σ := Unit) (by kernel_rfl) (by kernel_rfl) (by kernel_rfl)
            (fun _ i => match i with
              | 0 => .agg #[.int .i64 t.start, .slice A1 j1 c1, .slice A2 k c2]
              | 1 => .bool true
              | 2 => .bool true
              | 3 => .bool true
              | 4 => .bool true
              | 5 => .bool true
              | 6 => .bool true
              | 7 => .bool true
              | 8 => .bool true
              | 9 => .agg #[.slice A3 k c3]
              | 10 => .int .i64 (sv : Nat)
              | 11 => .bool true
              | 12 => .bool true
              | 13 => .bool true
              | 14 => .bool true
              | 15 => .bool true
              | 16 => .bool false
              | 17 => .bool false
              | 18 => .slice P pm pd
              | 19 => .int .i64 (pm : Nat)
              | 20 => .agg #[.slice A3 k c3]
              | 21 => .int .i64 (b : Nat)
              | 22 => .int .i64 (pm : Nat)
              | 23 => .bool true
              | 24 => .bool true
              | 25 => .agg #[.slice A3 k c3]
              | 26 => .slice P pm pd
              | 27 => .int .i64 (f : Nat)
              | 28 => .int .i64 (sv : Nat)
              | 29 => .int .i64 (sv : Nat)
              | 30 => .bool true
              | 31 => .bool true
              | 32 => .bool true
              | 33 => .bool true
              | 34 => .bool true
              | 35 => .bool true
              | 36 => .bool true
              | 41 => .bool true
              | 42 => .bool true
              | 43 => .bool true
              | _ => undef)
            (fun D _ wx => Below w7.heap.size w7 wx)
            () ?_ ?_ ?_
          · intro D hD
            exact (Below.refl _ _).drew
          · refine StepAll.cons (fun D s wx hR (hDi : D 0 = false) hd hsh a' hs K hK => ?_) ?_
            · have e5 := hs.old 5 (u := .pointer (some ⟨B2, 0, none⟩)) (by kernel_rfl) rfl
              clear hs
              have c0 : wx.cell? ⟨B2, 0, none⟩ = some (.int .i64 t.start) := (bcells hR _ _ HB2.out).trans HT0.out
              have c1 : wx.cell? ⟨B2, 1, none⟩ = some (.slice A1 j1 c1) := (bcells hR _ _ HB2.out).trans HT1.out
              have c2 : wx.cell? ⟨B2, 2, none⟩ = some (.slice A2 k c2) := (bcells hR _ _ HB2.out).trans HT2.out
              go_simp
              exact hK () wx (fun _ _ => rfl) hR
            refine StepAll.cons (fun D s wx hR (hDi : D 1 = false) hd hsh a' hs K hK => ?_) ?_
            · have e63 := hs.at_ 0 63 (u := .agg #[.int .i64 t.start, .slice A1 j1 c1, .slice A2 k c2]) rfl (hd ⟨0, .data⟩ (by simp) rfl) (by kernel_rfl) (by kernel_rfl) rfl
              have g63 := getQ e63
              clear hs
              go_simp
              refine (taskValid_impl _ t _ (HTV.out.up hR)).mono ?_
              rw [HTOK.out]
              rintro e2 w2 ⟨rfl, hb2⟩
              exact hK () w2 (fun _ _ => rfl) (hR.trans (hb2.mono hR.size))
            refine StepAll.cons (fun D s wx hR (hDi : D 2 = false) hd hsh a' hs K hK => ?_) ?_
            · have e64 := hs.at_ 1 64 (u := .bool true) rfl (hd ⟨1, .data⟩ (by simp) rfl) (by kernel_rfl) (by kernel_rfl) rfl
              clear hs
              go_simp
              exact hK () wx (fun _ _ => rfl) hR
            refine StepAll.consG (fun D s wx hR (hDi : D 3 = false) hd hsh a' hs K hK => ?_) ?_
            · have eg := hs.at_ 2 65 (u := .bool true) rfl (hd ⟨2, .guard⟩ (by simp) rfl) (by kernel_rfl) (by kernel_rfl) rfl
              rw [if_pos (by rw [hs.wants (j := 2) (t := 65) rfl rfl eg (by kernel_rfl)]; rfl)]
              have e8 := hs.old 8 (u := .bool true) (by kernel_rfl) rfl
              clear hs
              go_simp
              exact hK () wx (fun _ _ => rfl) hR
            refine StepAll.consG (fun D s wx hR (hDi : D 4 = false) hd hsh a' hs K hK => ?_) ?_
            · have eg := hs.at_ 2 65 (u := .bool true) rfl (hd ⟨2, .guard⟩ (by simp) rfl) (by kernel_rfl) (by kernel_rfl) rfl
              rw [if_pos (by rw [hs.wants (j := 2) (t := 65) rfl rfl eg (by kernel_rfl)]; rfl)]
              have e10 := hs.old 10 (u := .bool true) (by kernel_rfl) rfl
              clear hs
              go_simp
              exact hK () wx (fun _ _ => rfl) hR
            refine StepAll.consG (fun D s wx hR (hDi : D 5 = false) hd hsh a' hs K hK => ?_) ?_
            · have eg := hs.at_ 2 65 (u := .bool true) rfl (hd ⟨2, .guard⟩ (by simp) rfl) (by kernel_rfl) (by kernel_rfl) rfl
              rw [if_pos (by rw [hs.wants (j := 2) (t := 65) rfl rfl eg (by kernel_rfl)]; rfl)]
              have e66 := hs.at_ 3 66 (u := .bool true) rfl (hd ⟨3, .data⟩ (by simp) rfl) (by kernel_rfl) (by kernel_rfl) rfl
              have e67 := hs.at_ 4 67 (u := .bool true) rfl (hd ⟨4, .data⟩ (by simp) rfl) (by kernel_rfl) (by kernel_rfl) rfl
              clear hs
              go_simp
              exact hK () wx (fun _ _ => rfl) hR
            refine StepAll.cons (fun D s wx hR (hDi : D 6 = false) hd hsh a' hs K hK => ?_) ?_
            · have e65 := hs.at_ 2 65 (u := .bool true) rfl (hd ⟨2, .data⟩ (by simp) rfl) (by kernel_rfl) (by kernel_rfl) rfl
              have e68 := hs.at_ 5 68 (u := .bool true) rfl (hd ⟨5, .data⟩ (by simp) rfl) (by kernel_rfl) (by kernel_rfl) rfl
              clear hs
              go_simp
              exact hK () wx (fun _ _ => rfl) hR
            refine StepAll.cons (fun D s wx hR (hDi : D 7 = false) hd hsh a' hs K hK => ?_) ?_
            · have e69 := hs.at_ 6 69 (u := .bool true) rfl (hd ⟨6, .data⟩ (by simp) rfl) (by kernel_rfl) (by kernel_rfl) rfl
              clear hs
              go_simp
              exact hK () wx (fun _ _ => rfl) hR
            refine StepAll.consG (fun D s wx hR (hDi : D 8 = false) hd hsh a' hs K hK => ?_) ?_
            · have eg := hs.at_ 7 70 (u := .bool true) rfl (hd ⟨7, .guard⟩ (by simp) rfl) (by kernel_rfl) (by kernel_rfl) rfl
              rw [if_pos (by rw [hs.wants (j := 7) (t := 70) rfl rfl eg (by kernel_rfl)]; rfl)]
              have e8 := hs.old 8 (u := .bool true) (by kernel_rfl) rfl
              clear hs
              go_simp
              exact hK () wx (fun _ _ => rfl) hR
            refine StepAll.consG (fun D s wx hR (hDi : D 9 = false) hd hsh a' hs K hK => ?_) ?_
            · have eg := hs.at_ 7 70 (u := .bool true) rfl (hd ⟨7, .guard⟩ (by simp) rfl) (by kernel_rfl) (by kernel_rfl) rfl
              rw [if_pos (by rw [hs.wants (j := 7) (t := 70) rfl rfl eg (by kernel_rfl)]; rfl)]
              have e3 := hs.old 3 (u := .pointer (some ⟨B1, 0, none⟩)) (by kernel_rfl) rfl
              clear hs
              have c0 : wx.cell? ⟨B1, 0, none⟩ = some (.slice A3 k c3) := (bcells hR _ _ HB1.out).trans HG0.out
              go_simp
              exact hK () wx (fun _ _ => rfl) hR
            refine StepAll.consG (fun D s wx hR (hDi : D 10 = false) hd hsh a' hs K hK => ?_) ?_
            · have eg := hs.at_ 7 70 (u := .bool true) rfl (hd ⟨7, .guard⟩ (by simp) rfl) (by kernel_rfl) (by kernel_rfl) rfl
              rw [if_pos (by rw [hs.wants (j := 7) (t := 70) rfl rfl eg (by kernel_rfl)]; rfl)]
              have e4 := hs.old 4 (u := .int .i64 (sv : Nat)) (by kernel_rfl) rfl
              clear hs
              go_simp
              exact hK () wx (fun _ _ => rfl) hR
            refine StepAll.consG (fun D s wx hR (hDi : D 11 = false) hd hsh a' hs K hK => ?_) ?_
            · have eg := hs.at_ 7 70 (u := .bool true) rfl (hd ⟨7, .guard⟩ (by simp) rfl) (by kernel_rfl) (by kernel_rfl) rfl
              rw [if_pos (by rw [hs.wants (j := 7) (t := 70) rfl rfl eg (by kernel_rfl)]; rfl)]
              have e72 := hs.at_ 9 72 (u := .agg #[.slice A3 k c3]) rfl (hd ⟨9, .data⟩ (by simp) rfl) (by kernel_rfl) (by kernel_rfl) rfl
              have e73 := hs.at_ 10 73 (u := .int .i64 (sv : Nat)) rfl (hd ⟨10, .data⟩ (by simp) rfl) (by kernel_rfl) (by kernel_rfl) rfl
              have g72 := getQ e72
              have g73 := getQ e73
              clear hs
              go_simp
              refine (outMay_impl A3 k c3 ys sv _ (HRG.out.up hR) HOK.out).mono ?_
              rw [HMAY.out]
              rintro e2 w2 ⟨rfl, hb2⟩
              exact hK () w2 (fun _ _ => rfl) (hR.trans (hb2.mono hR.size))
            refine StepAll.consG (fun D s wx hR (hDi : D 12 = false) hd hsh a' hs K hK => ?_) ?_
            · have eg := hs.at_ 7 70 (u := .bool true) rfl (hd ⟨7, .guard⟩ (by simp) rfl) (by kernel_rfl) (by kernel_rfl) rfl
              rw [if_pos (by rw [hs.wants (j := 7) (t := 70) rfl rfl eg (by kernel_rfl)]; rfl)]
              have e71 := hs.at_ 8 71 (u := .bool true) rfl (hd ⟨8, .data⟩ (by simp) rfl) (by kernel_rfl) (by kernel_rfl) rfl
              have e74 := hs.at_ 11 74 (u := .bool true) rfl (hd ⟨11, .data⟩ (by simp) rfl) (by kernel_rfl) (by kernel_rfl) rfl
              clear hs
              go_simp
              exact hK () wx (fun _ _ => rfl) hR
            refine StepAll.cons (fun D s wx hR (hDi : D 13 = false) hd hsh a' hs K hK => ?_) ?_
            · have e70 := hs.at_ 7 70 (u := .bool true) rfl (hd ⟨7, .data⟩ (by simp) rfl) (by kernel_rfl) (by kernel_rfl) rfl
              have e75 := hs.at_ 12 75 (u := .bool true) rfl (hd ⟨12, .data⟩ (by simp) rfl) (by kernel_rfl) (by kernel_rfl) rfl
              clear hs
              go_simp
              exact hK () wx (fun _ _ => rfl) hR
            refine StepAll.cons (fun D s wx hR (hDi : D 14 = false) hd hsh a' hs K hK => ?_) ?_
            · have e76 := hs.at_ 13 76 (u := .bool true) rfl (hd ⟨13, .data⟩ (by simp) rfl) (by kernel_rfl) (by kernel_rfl) rfl
              clear hs
              go_simp
              exact hK () wx (fun _ _ => rfl) hR
            refine StepAll.consG (fun D s wx hR (hDi : D 15 = false) hd hsh a' hs K hK => ?_) ?_
            · have eg := hs.at_ 14 77 (u := .bool true) rfl (hd ⟨14, .guard⟩ (by simp) rfl) (by kernel_rfl) (by kernel_rfl) rfl
              rw [if_pos (by rw [hs.wants (j := 14) (t := 77) rfl rfl eg (by kernel_rfl)]; rfl)]
              have e8 := hs.old 8 (u := .bool true) (by kernel_rfl) rfl
              clear hs
              go_simp
              exact hK () wx (fun _ _ => rfl) hR
            refine StepAll.consG (fun D s wx hR (hDi : D 16 = false) hd hsh a' hs K hK => ?_) ?_
            · have eg := hs.at_ 14 77 (u := .bool true) rfl (hd ⟨14, .guard⟩ (by simp) rfl) (by kernel_rfl) (by kernel_rfl) rfl
              rw [if_pos (by rw [hs.wants (j := 14) (t := 77) rfl rfl eg (by kernel_rfl)]; rfl)]
              have e78 := hs.at_ 15 78 (u := .bool true) rfl (hd ⟨15, .data⟩ (by simp) rfl) (by kernel_rfl) (by kernel_rfl) rfl
              clear hs
              go_simp
              exact hK () wx (fun _ _ => rfl) hR
            refine StepAll.consG (fun D s wx hR (hDi : D 17 = false) hd hsh a' hs K hK => ?_) ?_
            · have eg := hs.at_ 14 77 (u := .bool true) rfl (hd ⟨14, .guard⟩ (by simp) rfl) (by kernel_rfl) (by kernel_rfl) rfl
              rw [if_pos (by rw [hs.wants (j := 14) (t := 77) rfl rfl eg (by kernel_rfl)]; rfl)]
              have e79 := hs.at_ 16 79 (u := .bool false) rfl (hd ⟨16, .data⟩ (by simp) rfl) (by kernel_rfl) (by kernel_rfl) rfl
              clear hs
              go_simp
              exact hK () wx (fun _ _ => rfl) hR
            refine StepAll.consG (fun D s wx hR (hDi : D 18 = false) hd hsh a' hs K hK => ?_) ?_
            · have eg := hs.at_ 17 80 (u := .bool false) rfl (hd ⟨17, .guard⟩ (by simp) rfl) (by kernel_rfl) (by kernel_rfl) rfl
              rw [if_pos (by rw [hs.wants (j := 17) (t := 80) rfl rfl eg (by kernel_rfl)]; rfl)]
              have e7 := hs.old 7 (u := .slice P pm pd) (by kernel_rfl) rfl
              clear hs
              go_simp
              exact hK () wx (fun _ _ => rfl) hR
            refine StepAll.consG (fun D s wx hR (hDi : D 19 = false) hd hsh a' hs K hK => ?_) ?_
            · have eg := hs.at_ 17 80 (u := .bool false) rfl (hd ⟨17, .guard⟩ (by simp) rfl) (by kernel_rfl) (by kernel_rfl) rfl
              rw [if_pos (by rw [hs.wants (j := 17) (t := 80) rfl rfl eg (by kernel_rfl)]; rfl)]
              have e81 := hs.at_ 18 81 (u := .slice P pm pd) rfl (hd ⟨18, .data⟩ (by simp) rfl) (by kernel_rfl) (by kernel_rfl) rfl
              have g81 := getQ e81
              clear hs
              go_simp
              exact hK () wx (fun _ _ => rfl) hR
            refine StepAll.consG (fun D s wx hR (hDi : D 20 = false) hd hsh a' hs K hK => ?_) ?_
            · have eg := hs.at_ 17 80 (u := .bool false) rfl (hd ⟨17, .guard⟩ (by simp) rfl) (by kernel_rfl) (by kernel_rfl) rfl
              rw [if_pos (by rw [hs.wants (j := 17) (t := 80) rfl rfl eg (by kernel_rfl)]; rfl)]
              have e3 := hs.old 3 (u := .pointer (some ⟨B1, 0, none⟩)) (by kernel_rfl) rfl
              clear hs
              have c0 : wx.cell? ⟨B1, 0, none⟩ = some (.slice A3 k c3) := (bcells hR _ _ HB1.out).trans HG0.out
              go_simp
              exact hK () wx (fun _ _ => rfl) hR
            refine StepAll.consG (fun D s wx hR (hDi : D 21 = false) hd hsh a' hs K hK => ?_) ?_
            · have eg := hs.at_ 17 80 (u := .bool false) rfl (hd ⟨17, .guard⟩ (by simp) rfl) (by kernel_rfl) (by kernel_rfl) rfl
              rw [if_pos (by rw [hs.wants (j := 17) (t := 80) rfl rfl eg (by kernel_rfl)]; rfl)]
              have e9 := hs.old 9 (u := .int .i64 (b : Nat)) (by kernel_rfl) rfl
              clear hs
              go_simp
              exact hK () wx (fun _ _ => rfl) hR
            refine StepAll.consG (fun D s wx hR (hDi : D 22 = false) hd hsh a' hs K hK => ?_) ?_
            · have eg := hs.at_ 17 80 (u := .bool false) rfl (hd ⟨17, .guard⟩ (by simp) rfl) (by kernel_rfl) (by kernel_rfl) rfl
              rw [if_pos (by rw [hs.wants (j := 17) (t := 80) rfl rfl eg (by kernel_rfl)]; rfl)]
              have e83 := hs.at_ 20 83 (u := .agg #[.slice A3 k c3]) rfl (hd ⟨20, .data⟩ (by simp) rfl) (by kernel_rfl) (by kernel_rfl) rfl
              have e84 := hs.at_ 21 84 (u := .int .i64 (b : Nat)) rfl (hd ⟨21, .data⟩ (by simp) rfl) (by kernel_rfl) (by kernel_rfl) rfl
              have g83 := getQ e83
              have g84 := getQ e84
              clear hs
              go_simp
              refine (setMany_impl A3 k c3 ys b _ (HRG.out.up hR) HSB.out).mono ?_
              rw [HPB.out]
              rintro e2 w2 ⟨rfl, hb2⟩
              exact hK () w2 (fun _ _ => rfl) (hR.trans (hb2.mono hR.size))
            refine StepAll.consG (fun D s wx hR (hDi : D 23 = false) hd hsh a' hs K hK => ?_) ?_
            · have eg := hs.at_ 17 80 (u := .bool false) rfl (hd ⟨17, .guard⟩ (by simp) rfl) (by kernel_rfl) (by kernel_rfl) rfl
              rw [if_pos (by rw [hs.wants (j := 17) (t := 80) rfl rfl eg (by kernel_rfl)]; rfl)]
              have e82 := hs.at_ 19 82 (u := .int .i64 (pm : Nat)) rfl (hd ⟨19, .data⟩ (by simp) rfl) (by kernel_rfl) (by kernel_rfl) rfl
              have e85 := hs.at_ 22 85 (u := .int .i64 (pm : Nat)) rfl (hd ⟨22, .data⟩ (by simp) rfl) (by kernel_rfl) (by kernel_rfl) rfl
              clear hs
              go_simp
              exact hK () wx (fun _ _ => rfl) hR
            refine StepAll.consG (fun D s wx hR (hDi : D 24 = false) hd hsh a' hs K hK => ?_) ?_
            · have eg := hs.at_ 17 80 (u := .bool false) rfl (hd ⟨17, .guard⟩ (by simp) rfl) (by kernel_rfl) (by kernel_rfl) rfl
              rw [if_pos (by rw [hs.wants (j := 17) (t := 80) rfl rfl eg (by kernel_rfl)]; rfl)]
              have e86 := hs.at_ 23 86 (u := .bool true) rfl (hd ⟨23, .data⟩ (by simp) rfl) (by kernel_rfl) (by kernel_rfl) rfl
              clear hs
              go_simp
              exact hK () wx (fun _ _ => rfl) hR
            refine StepAll.consG (fun D s wx hR (hDi : D 25 = false) hd hsh a' hs K hK => ?_) ?_
            · have eg := hs.at_ 24 87 (u := .bool true) rfl (hd ⟨24, .guard⟩ (by simp) rfl) (by kernel_rfl) (by kernel_rfl) rfl
              rw [if_pos (by rw [hs.wants (j := 24) (t := 87) rfl rfl eg (by kernel_rfl)]; rfl)]
              have e3 := hs.old 3 (u := .pointer (some ⟨B1, 0, none⟩)) (by kernel_rfl) rfl
              clear hs
              have c0 : wx.cell? ⟨B1, 0, none⟩ = some (.slice A3 k c3) := (bcells hR _ _ HB1.out).trans HG0.out
              go_simp
              exact hK () wx (fun _ _ => rfl) hR
            refine StepAll.consG (fun D s wx hR (hDi : D 26 = false) hd hsh a' hs K hK => ?_) ?_
            · have eg := hs.at_ 24 87 (u := .bool true) rfl (hd ⟨24, .guard⟩ (by simp) rfl) (by kernel_rfl) (by kernel_rfl) rfl
              rw [if_pos (by rw [hs.wants (j := 24) (t := 87) rfl rfl eg (by kernel_rfl)]; rfl)]
              have e7 := hs.old 7 (u := .slice P pm pd) (by kernel_rfl) rfl
              clear hs
              go_simp
              exact hK () wx (fun _ _ => rfl) hR
            refine StepAll.consG (fun D s wx hR (hDi : D 27 = false) hd hsh a' hs K hK => ?_) ?_
            · have eg := hs.at_ 24 87 (u := .bool true) rfl (hd ⟨24, .guard⟩ (by simp) rfl) (by kernel_rfl) (by kernel_rfl) rfl
              rw [if_pos (by rw [hs.wants (j := 24) (t := 87) rfl rfl eg (by kernel_rfl)]; rfl)]
              have e89 := hs.at_ 26 89 (u := .slice P pm pd) rfl (hd ⟨26, .data⟩ (by simp) rfl) (by kernel_rfl) (by kernel_rfl) rfl
              have g89 := getQ e89
              clear hs
              go_simp
              refine (pressesOf_impl P pm pd p _ (HPL.out.up hR)).mono ?_
              rw [HPP.out]
              rintro e2 w2 ⟨rfl, rfl⟩
              exact hK () wx (fun _ _ => rfl) hR
            refine StepAll.consG (fun D s wx hR (hDi : D 28 = false) hd hsh a' hs K hK => ?_) ?_
            · have eg := hs.at_ 24 87 (u := .bool true) rfl (hd ⟨24, .guard⟩ (by simp) rfl) (by kernel_rfl) (by kernel_rfl) rfl
              rw [if_pos (by rw [hs.wants (j := 24) (t := 87) rfl rfl eg (by kernel_rfl)]; rfl)]
              have e88 := hs.at_ 25 88 (u := .agg #[.slice A3 k c3]) rfl (hd ⟨25, .data⟩ (by simp) rfl) (by kernel_rfl) (by kernel_rfl) rfl
              have e90 := hs.at_ 27 90 (u := .int .i64 (f : Nat)) rfl (hd ⟨27, .data⟩ (by simp) rfl) (by kernel_rfl) (by kernel_rfl) rfl
              have g88 := getQ e88
              have g90 := getQ e90
              clear hs
              go_simp
              refine (pressSet_impl A3 k c3 ys f _ (HRG.out.up hR) HSF.out).mono ?_
              rw [HPF.out]
              rintro e2 w2 ⟨rfl, hb2⟩
              exact hK () w2 (fun _ _ => rfl) (hR.trans (hb2.mono hR.size))
            refine StepAll.consG (fun D s wx hR (hDi : D 29 = false) hd hsh a' hs K hK => ?_) ?_
            · have eg := hs.at_ 24 87 (u := .bool true) rfl (hd ⟨24, .guard⟩ (by simp) rfl) (by kernel_rfl) (by kernel_rfl) rfl
              rw [if_pos (by rw [hs.wants (j := 24) (t := 87) rfl rfl eg (by kernel_rfl)]; rfl)]
              have e4 := hs.old 4 (u := .int .i64 (sv : Nat)) (by kernel_rfl) rfl
              clear hs
              go_simp
              exact hK () wx (fun _ _ => rfl) hR
            refine StepAll.consG (fun D s wx hR (hDi : D 30 = false) hd hsh a' hs K hK => ?_) ?_
            · have eg := hs.at_ 24 87 (u := .bool true) rfl (hd ⟨24, .guard⟩ (by simp) rfl) (by kernel_rfl) (by kernel_rfl) rfl
              rw [if_pos (by rw [hs.wants (j := 24) (t := 87) rfl rfl eg (by kernel_rfl)]; rfl)]
              have e91 := hs.at_ 28 91 (u := .int .i64 (sv : Nat)) rfl (hd ⟨28, .data⟩ (by simp) rfl) (by kernel_rfl) (by kernel_rfl) rfl
              have e92 := hs.at_ 29 92 (u := .int .i64 (sv : Nat)) rfl (hd ⟨29, .data⟩ (by simp) rfl) (by kernel_rfl) (by kernel_rfl) rfl
              clear hs
              go_simp
              exact hK () wx (fun _ _ => rfl) hR
            refine StepAll.consG (fun D s wx hR (hDi : D 31 = false) hd hsh a' hs K hK => ?_) ?_
            · have eg := hs.at_ 17 80 (u := .bool false) rfl (hd ⟨17, .guard⟩ (by simp) rfl) (by kernel_rfl) (by kernel_rfl) rfl
              rw [if_pos (by rw [hs.wants (j := 17) (t := 80) rfl rfl eg (by kernel_rfl)]; rfl)]
              have e87 := hs.at_ 24 87 (u := .bool true) rfl (hd ⟨24, .data⟩ (by simp) rfl) (by kernel_rfl) (by kernel_rfl) rfl
              have e93 := hs.at_ 30 93 (u := .bool true) rfl (hd ⟨30, .data⟩ (by simp) rfl) (by kernel_rfl) (by kernel_rfl) rfl
              clear hs
              go_simp
              exact hK () wx (fun _ _ => rfl) hR
            refine StepAll.consG (fun D s wx hR (hDi : D 32 = false) hd hsh a' hs K hK => ?_) ?_
            · have eg := hs.at_ 14 77 (u := .bool true) rfl (hd ⟨14, .guard⟩ (by simp) rfl) (by kernel_rfl) (by kernel_rfl) rfl
              rw [if_pos (by rw [hs.wants (j := 14) (t := 77) rfl rfl eg (by kernel_rfl)]; rfl)]
              have e80 := hs.at_ 17 80 (u := .bool false) rfl (hd ⟨17, .data⟩ (by simp) rfl) (by kernel_rfl) (by kernel_rfl) rfl
              have e94 := hs.at_ 31 94 (u := .bool true) rfl (hd ⟨31, .data⟩ (by simp) rfl) (by kernel_rfl) (by kernel_rfl) rfl
              clear hs
              go_simp
              exact hK () wx (fun _ _ => rfl) hR
            refine StepAll.cons (fun D s wx hR (hDi : D 33 = false) hd hsh a' hs K hK => ?_) ?_
            · have e77 := hs.at_ 14 77 (u := .bool true) rfl (hd ⟨14, .data⟩ (by simp) rfl) (by kernel_rfl) (by kernel_rfl) rfl
              have e95 := hs.at_ 32 95 (u := .bool true) rfl (hd ⟨32, .data⟩ (by simp) rfl) (by kernel_rfl) (by kernel_rfl) rfl
              clear hs
              go_simp
              exact hK () wx (fun _ _ => rfl) hR
            refine StepAll.cons (fun D s wx hR (hDi : D 34 = false) hd hsh a' hs K hK => ?_) ?_
            · have e96 := hs.at_ 33 96 (u := .bool true) rfl (hd ⟨33, .data⟩ (by simp) rfl) (by kernel_rfl) (by kernel_rfl) rfl
              clear hs
              go_simp
              exact hK () wx (fun _ _ => rfl) hR
            refine StepAll.consG (fun D s wx hR (hDi : D 35 = false) hd hsh a' hs K hK => ?_) ?_
            · have eg := hs.at_ 34 97 (u := .bool true) rfl (hd ⟨34, .guard⟩ (by simp) rfl) (by kernel_rfl) (by kernel_rfl) rfl
              rw [if_pos (by rw [hs.wants (j := 34) (t := 97) rfl rfl eg (by kernel_rfl)]; rfl)]
              have e8 := hs.old 8 (u := .bool true) (by kernel_rfl) rfl
              clear hs
              go_simp
              exact hK () wx (fun _ _ => rfl) hR
            refine StepAll.consG (fun D s wx hR (hDi : D 36 = false) hd hsh a' hs K hK => ?_) ?_
            · have eg := hs.at_ 34 97 (u := .bool true) rfl (hd ⟨34, .guard⟩ (by simp) rfl) (by kernel_rfl) (by kernel_rfl) rfl
              rw [if_pos (by rw [hs.wants (j := 34) (t := 97) rfl rfl eg (by kernel_rfl)]; rfl)]
              have e98 := hs.at_ 35 98 (u := .bool true) rfl (hd ⟨35, .data⟩ (by simp) rfl) (by kernel_rfl) (by kernel_rfl) rfl
              clear hs
              go_simp
              exact hK () wx (fun _ _ => rfl) hR
            refine StepAll.skip 36 99 true ?_
            refine StepAll.skip 36 99 true ?_
            refine StepAll.skip 36 99 true ?_
            refine StepAll.skip 36 99 true ?_
            refine StepAll.consG (fun D s wx hR (hDi : D 41 = false) hd hsh a' hs K hK => ?_) ?_
            · have eg := hs.at_ 34 97 (u := .bool true) rfl (hd ⟨34, .guard⟩ (by simp) rfl) (by kernel_rfl) (by kernel_rfl) rfl
              rw [if_pos (by rw [hs.wants (j := 34) (t := 97) rfl rfl eg (by kernel_rfl)]; rfl)]
              have e99 := hs.at_ 36 99 (u := .bool true) rfl (hd ⟨36, .data⟩ (by simp) rfl) (by kernel_rfl) (by kernel_rfl) rfl
              have e103 := hs.at_ 40 103 (u := undef) rfl (hd ⟨40, .data⟩ (by simp) rfl) (by kernel_rfl) (by kernel_rfl) rfl
              clear hs
              go_simp
              exact hK () wx (fun _ _ => rfl) hR
            refine StepAll.cons (fun D s wx hR (hDi : D 42 = false) hd hsh a' hs K hK => ?_) ?_
            · have e97 := hs.at_ 34 97 (u := .bool true) rfl (hd ⟨34, .data⟩ (by simp) rfl) (by kernel_rfl) (by kernel_rfl) rfl
              have e104 := hs.at_ 41 104 (u := .bool true) rfl (hd ⟨41, .data⟩ (by simp) rfl) (by kernel_rfl) (by kernel_rfl) rfl
              clear hs
              go_simp
              exact hK () wx (fun _ _ => rfl) hR
            refine StepAll.cons (fun D s wx hR (hDi : D 43 = false) hd hsh a' hs K hK => ?_) ?_
            · have e105 := hs.at_ 42 105 (u := .bool true) rfl (hd ⟨42, .data⟩ (by simp) rfl) (by kernel_rfl) (by kernel_rfl) rfl
              clear hs
              go_simp
              exact hK () wx (fun _ _ => rfl) hR
            exact StepAll.nil
          · intro D s wx hR hD
            simp only [putA, Act.put, List.setIfInBounds_toArray, List.set_cons_zero, List.set_cons_succ]
            have HSB2 := Lib.hid (HS7.out.quiet hR)
            clear hR hD HS7
            go_wp2
            go_ret
            exact ⟨rfl, HSB2.out.below⟩
        | none =>
          obtain ⟨e1, e2, e3, e4⟩ := lights_noplan HOK.out H5.out (by rw [HX.out]; exact HPO.out)
          rw [HX.out] at e4
          rw [HL.out] at e1 e3 e4
          rw [e1]
          rintro e w7 ⟨rfl, hb7⟩
          have HS7 := Lib.hid (HS6.out.quiet hb7)
          have HMAY := Bx.mk e2
          have HEX := Lib.hid e3
          have HALL := Lib.hid e4
          obtain ⟨hg, hlt⟩ := setOk_lt HOK.out
          have HGO := Bx.mk hg
          have HV512 : Bx (sv < 512) := Bx.mk (by have := pow5_512 H5.out hlt; omega)
          clear hb7 HS6 q1 e1 e2 e3 e4 hpl hpm hg hlt
          have k1 := HS7.out.blk 1 rfl
          have k2 := HS7.out.blk 3 rfl
          have hb1 : B1 < w7.heap.size := k1.lt
          have hb2 : B2 < w7.heap.size := k2.lt
          have HB1 := Bx.mk hb1
          have HB2 := Bx.mk hb2
          have HG0 := Bx.mk (k1.cell 0)
          have HT0 := Bx.mk (k2.cell 0)
          have HT1 := Bx.mk (k2.cell 1)
          have HT2 := Bx.mk (k2.cell 2)
          have HTV := Lib.hid (HS7.out.rdT 2 rfl)
          have HRG := Lib.hid (HS7.out.rdG 0 rfl).ints.1
          clear k1 k2 hb1 hb2
          simp only [opt, Option.isSome_none]
          go_upto_region 16 with (fail)
          refine wp_reg (σ := Unit) (by kernel_rfl) (by kernel_rfl) (by kernel_rfl)
            (fun _ i => match i with
              | 0 => .agg #[.int .i64 t.start, .slice A1 j1 c1, .slice A2 k c2]
              | 1 => .bool true
              | 2 => .bool true
              | 3 => .bool false
              | 4 => .bool false
              | 5 => .bool true
              | 6 => .bool true
              | 7 => .bool true
              | 8 => .bool false
              | 9 => .agg #[.slice A3 k c3]
              | 10 => .int .i64 (sv : Nat)
              | 11 => .bool false
              | 12 => .bool true
              | 13 => .bool true
              | 14 => .bool true
              | 15 => .bool false
              | 16 => .bool true
              | 17 => .bool true
              | 32 => .bool true
              | 33 => .bool true
              | 34 => .bool true
              | 35 => .bool false
              | 36 => .bool false
              | 37 => .agg #[.slice A3 k c3]
              | 38 => .int .i64 (sv : Nat)
              | 39 => .agg #[.int .i64 t.start, .slice A1 j1 c1, .slice A2 k c2]
              | 40 => .bool true
              | 41 => .bool true
              | 42 => .bool true
              | 43 => .bool true
              | _ => undef)
            (fun D _ wx => Below w7.heap.size w7 wx)
            () ?_ ?_ ?_
          · intro D hD
            exact (Below.refl _ _).drew
          · refine StepAll.cons (fun D s wx hR (hDi : D 0 = false) hd hsh a' hs K hK => ?_) ?_
            · have e5 := hs.old 5 (u := .pointer (some ⟨B2, 0, none⟩)) (by kernel_rfl) rfl
              clear hs
              have c0 : wx.cell? ⟨B2, 0, none⟩ = some (.int .i64 t.start) := (bcells hR _ _ HB2.out).trans HT0.out
              have c1 : wx.cell? ⟨B2, 1, none⟩ = some (.slice A1 j1 c1) := (bcells hR _ _ HB2.out).trans HT1.out
              have c2 : wx.cell? ⟨B2, 2, none⟩ = some (.slice A2 k c2) := (bcells hR _ _ HB2.out).trans HT2.out
              go_simp
              exact hK () wx (fun _ _ => rfl) hR
            refine StepAll.cons (fun D s wx hR (hDi : D 1 = false) hd hsh a' hs K hK => ?_) ?_
            · have e63 := hs.at_ 0 63 (u := .agg #[.int .i64 t.start, .slice A1 j1 c1, .slice A2 k c2]) rfl (hd ⟨0, .data⟩ (by simp) rfl) (by kernel_rfl) (by kernel_rfl) rfl
              have g63 := getQ e63
              clear hs
              go_simp
              refine (taskValid_impl _ t _ (HTV.out.up hR)).mono ?_
              rw [HTOK.out]
              rintro e2 w2 ⟨rfl, hb2⟩
              exact hK () w2 (fun _ _ => rfl) (hR.trans (hb2.mono hR.size))
            refine StepAll.cons (fun D s wx hR (hDi : D 2 = false) hd hsh a' hs K hK => ?_) ?_
            · have e64 := hs.at_ 1 64 (u := .bool true) rfl (hd ⟨1, .data⟩ (by simp) rfl) (by kernel_rfl) (by kernel_rfl) rfl
              clear hs
              go_simp
              exact hK () wx (fun _ _ => rfl) hR
            refine StepAll.consG (fun D s wx hR (hDi : D 3 = false) hd hsh a' hs K hK => ?_) ?_
            · have eg := hs.at_ 2 65 (u := .bool true) rfl (hd ⟨2, .guard⟩ (by simp) rfl) (by kernel_rfl) (by kernel_rfl) rfl
              rw [if_pos (by rw [hs.wants (j := 2) (t := 65) rfl rfl eg (by kernel_rfl)]; rfl)]
              have e8 := hs.old 8 (u := .bool false) (by kernel_rfl) rfl
              clear hs
              go_simp
              exact hK () wx (fun _ _ => rfl) hR
            refine StepAll.consG (fun D s wx hR (hDi : D 4 = false) hd hsh a' hs K hK => ?_) ?_
            · have eg := hs.at_ 2 65 (u := .bool true) rfl (hd ⟨2, .guard⟩ (by simp) rfl) (by kernel_rfl) (by kernel_rfl) rfl
              rw [if_pos (by rw [hs.wants (j := 2) (t := 65) rfl rfl eg (by kernel_rfl)]; rfl)]
              have e10 := hs.old 10 (u := .bool false) (by kernel_rfl) rfl
              clear hs
              go_simp
              exact hK () wx (fun _ _ => rfl) hR
            refine StepAll.consG (fun D s wx hR (hDi : D 5 = false) hd hsh a' hs K hK => ?_) ?_
            · have eg := hs.at_ 2 65 (u := .bool true) rfl (hd ⟨2, .guard⟩ (by simp) rfl) (by kernel_rfl) (by kernel_rfl) rfl
              rw [if_pos (by rw [hs.wants (j := 2) (t := 65) rfl rfl eg (by kernel_rfl)]; rfl)]
              have e66 := hs.at_ 3 66 (u := .bool false) rfl (hd ⟨3, .data⟩ (by simp) rfl) (by kernel_rfl) (by kernel_rfl) rfl
              have e67 := hs.at_ 4 67 (u := .bool false) rfl (hd ⟨4, .data⟩ (by simp) rfl) (by kernel_rfl) (by kernel_rfl) rfl
              clear hs
              go_simp
              exact hK () wx (fun _ _ => rfl) hR
            refine StepAll.cons (fun D s wx hR (hDi : D 6 = false) hd hsh a' hs K hK => ?_) ?_
            · have e65 := hs.at_ 2 65 (u := .bool true) rfl (hd ⟨2, .data⟩ (by simp) rfl) (by kernel_rfl) (by kernel_rfl) rfl
              have e68 := hs.at_ 5 68 (u := .bool true) rfl (hd ⟨5, .data⟩ (by simp) rfl) (by kernel_rfl) (by kernel_rfl) rfl
              clear hs
              go_simp
              exact hK () wx (fun _ _ => rfl) hR
            refine StepAll.cons (fun D s wx hR (hDi : D 7 = false) hd hsh a' hs K hK => ?_) ?_
            · have e69 := hs.at_ 6 69 (u := .bool true) rfl (hd ⟨6, .data⟩ (by simp) rfl) (by kernel_rfl) (by kernel_rfl) rfl
              clear hs
              go_simp
              exact hK () wx (fun _ _ => rfl) hR
            refine StepAll.consG (fun D s wx hR (hDi : D 8 = false) hd hsh a' hs K hK => ?_) ?_
            · have eg := hs.at_ 7 70 (u := .bool true) rfl (hd ⟨7, .guard⟩ (by simp) rfl) (by kernel_rfl) (by kernel_rfl) rfl
              rw [if_pos (by rw [hs.wants (j := 7) (t := 70) rfl rfl eg (by kernel_rfl)]; rfl)]
              have e8 := hs.old 8 (u := .bool false) (by kernel_rfl) rfl
              clear hs
              go_simp
              exact hK () wx (fun _ _ => rfl) hR
            refine StepAll.consG (fun D s wx hR (hDi : D 9 = false) hd hsh a' hs K hK => ?_) ?_
            · have eg := hs.at_ 7 70 (u := .bool true) rfl (hd ⟨7, .guard⟩ (by simp) rfl) (by kernel_rfl) (by kernel_rfl) rfl
              rw [if_pos (by rw [hs.wants (j := 7) (t := 70) rfl rfl eg (by kernel_rfl)]; rfl)]
              have e3 := hs.old 3 (u := .pointer (some ⟨B1, 0, none⟩)) (by kernel_rfl) rfl
              clear hs
              have c0 : wx.cell? ⟨B1, 0, none⟩ = some (.slice A3 k c3) := (bcells hR _ _ HB1.out).trans HG0.out
              go_simp
              exact hK () wx (fun _ _ => rfl) hR
            refine StepAll.consG (fun D s wx hR (hDi : D 10 = false) hd hsh a' hs K hK => ?_) ?_
            · have eg := hs.at_ 7 70 (u := .bool true) rfl (hd ⟨7, .guard⟩ (by simp) rfl) (by kernel_rfl) (by kernel_rfl) rfl
              rw [if_pos (by rw [hs.wants (j := 7) (t := 70) rfl rfl eg (by kernel_rfl)]; rfl)]
              have e4 := hs.old 4 (u := .int .i64 (sv : Nat)) (by kernel_rfl) rfl
              clear hs
              go_simp
              exact hK () wx (fun _ _ => rfl) hR
            refine StepAll.consG (fun D s wx hR (hDi : D 11 = false) hd hsh a' hs K hK => ?_) ?_
            · have eg := hs.at_ 7 70 (u := .bool true) rfl (hd ⟨7, .guard⟩ (by simp) rfl) (by kernel_rfl) (by kernel_rfl) rfl
              rw [if_pos (by rw [hs.wants (j := 7) (t := 70) rfl rfl eg (by kernel_rfl)]; rfl)]
              have e72 := hs.at_ 9 72 (u := .agg #[.slice A3 k c3]) rfl (hd ⟨9, .data⟩ (by simp) rfl) (by kernel_rfl) (by kernel_rfl) rfl
              have e73 := hs.at_ 10 73 (u := .int .i64 (sv : Nat)) rfl (hd ⟨10, .data⟩ (by simp) rfl) (by kernel_rfl) (by kernel_rfl) rfl
              have g72 := getQ e72
              have g73 := getQ e73
              clear hs
              go_simp
              refine (outMay_impl A3 k c3 ys sv _ (HRG.out.up hR) HOK.out).mono ?_
              rw [HMAY.out]
              rintro e2 w2 ⟨rfl, hb2⟩
              exact hK () w2 (fun _ _ => rfl) (hR.trans (hb2.mono hR.size))
            refine StepAll.consG (fun D s wx hR (hDi : D 12 = false) hd hsh a' hs K hK => ?_) ?_
            · have eg := hs.at_ 7 70 (u := .bool true) rfl (hd ⟨7, .guard⟩ (by simp) rfl) (by kernel_rfl) (by kernel_rfl) rfl
              rw [if_pos (by rw [hs.wants (j := 7) (t := 70) rfl rfl eg (by kernel_rfl)]; rfl)]
              have e71 := hs.at_ 8 71 (u := .bool false) rfl (hd ⟨8, .data⟩ (by simp) rfl) (by kernel_rfl) (by kernel_rfl) rfl
              have e74 := hs.at_ 11 74 (u := .bool false) rfl (hd ⟨11, .data⟩ (by simp) rfl) (by kernel_rfl) (by kernel_rfl) rfl
              clear hs
              go_simp
              exact hK () wx (fun _ _ => rfl) hR
            refine StepAll.cons (fun D s wx hR (hDi : D 13 = false) hd hsh a' hs K hK => ?_) ?_
            · have e70 := hs.at_ 7 70 (u := .bool true) rfl (hd ⟨7, .data⟩ (by simp) rfl) (by kernel_rfl) (by kernel_rfl) rfl
              have e75 := hs.at_ 12 75 (u := .bool true) rfl (hd ⟨12, .data⟩ (by simp) rfl) (by kernel_rfl) (by kernel_rfl) rfl
              clear hs
              go_simp
              exact hK () wx (fun _ _ => rfl) hR
            refine StepAll.cons (fun D s wx hR (hDi : D 14 = false) hd hsh a' hs K hK => ?_) ?_
            · have e76 := hs.at_ 13 76 (u := .bool true) rfl (hd ⟨13, .data⟩ (by simp) rfl) (by kernel_rfl) (by kernel_rfl) rfl
              clear hs
              go_simp
              exact hK () wx (fun _ _ => rfl) hR
            refine StepAll.consG (fun D s wx hR (hDi : D 15 = false) hd hsh a' hs K hK => ?_) ?_
            · have eg := hs.at_ 14 77 (u := .bool true) rfl (hd ⟨14, .guard⟩ (by simp) rfl) (by kernel_rfl) (by kernel_rfl) rfl
              rw [if_pos (by rw [hs.wants (j := 14) (t := 77) rfl rfl eg (by kernel_rfl)]; rfl)]
              have e8 := hs.old 8 (u := .bool false) (by kernel_rfl) rfl
              clear hs
              go_simp
              exact hK () wx (fun _ _ => rfl) hR
            refine StepAll.consG (fun D s wx hR (hDi : D 16 = false) hd hsh a' hs K hK => ?_) ?_
            · have eg := hs.at_ 14 77 (u := .bool true) rfl (hd ⟨14, .guard⟩ (by simp) rfl) (by kernel_rfl) (by kernel_rfl) rfl
              rw [if_pos (by rw [hs.wants (j := 14) (t := 77) rfl rfl eg (by kernel_rfl)]; rfl)]
              have e78 := hs.at_ 15 78 (u := .bool false) rfl (hd ⟨15, .data⟩ (by simp) rfl) (by kernel_rfl) (by kernel_rfl) rfl
              clear hs
              go_simp
              exact hK () wx (fun _ _ => rfl) hR
            refine StepAll.consG (fun D s wx hR (hDi : D 17 = false) hd hsh a' hs K hK => ?_) ?_
            · have eg := hs.at_ 14 77 (u := .bool true) rfl (hd ⟨14, .guard⟩ (by simp) rfl) (by kernel_rfl) (by kernel_rfl) rfl
              rw [if_pos (by rw [hs.wants (j := 14) (t := 77) rfl rfl eg (by kernel_rfl)]; rfl)]
              have e79 := hs.at_ 16 79 (u := .bool true) rfl (hd ⟨16, .data⟩ (by simp) rfl) (by kernel_rfl) (by kernel_rfl) rfl
              clear hs
              go_simp
              exact hK () wx (fun _ _ => rfl) hR
            refine StepAll.skip 17 80 true ?_
            refine StepAll.skip 17 80 true ?_
            refine StepAll.skip 17 80 true ?_
            refine StepAll.skip 17 80 true ?_
            refine StepAll.skip 17 80 true ?_
            refine StepAll.skip 17 80 true ?_
            refine StepAll.skip 17 80 true ?_
            refine StepAll.skipU 24 87 true ?_
            refine StepAll.skipU 24 87 true ?_
            refine StepAll.skipU 24 87 true ?_
            refine StepAll.skipU 24 87 true ?_
            refine StepAll.skipU 24 87 true ?_
            refine StepAll.skipU 24 87 true ?_
            refine StepAll.skip 17 80 true ?_
            refine StepAll.consG (fun D s wx hR (hDi : D 32 = false) hd hsh a' hs K hK => ?_) ?_
            · have eg := hs.at_ 14 77 (u := .bool true) rfl (hd ⟨14, .guard⟩ (by simp) rfl) (by kernel_rfl) (by kernel_rfl) rfl
              rw [if_pos (by rw [hs.wants (j := 14) (t := 77) rfl rfl eg (by kernel_rfl)]; rfl)]
              have e80 := hs.at_ 17 80 (u := .bool true) rfl (hd ⟨17, .data⟩ (by simp) rfl) (by kernel_rfl) (by kernel_rfl) rfl
              have e94 := hs.at_ 31 94 (u := undef) rfl (hd ⟨31, .data⟩ (by simp) rfl) (by kernel_rfl) (by kernel_rfl) rfl
              clear hs
              go_simp
              exact hK () wx (fun _ _ => rfl) hR
            refine StepAll.cons (fun D s wx hR (hDi : D 33 = false) hd hsh a' hs K hK => ?_) ?_
            · have e77 := hs.at_ 14 77 (u := .bool true) rfl (hd ⟨14, .data⟩ (by simp) rfl) (by kernel_rfl) (by kernel_rfl) rfl
              have e95 := hs.at_ 32 95 (u := .bool true) rfl (hd ⟨32, .data⟩ (by simp) rfl) (by kernel_rfl) (by kernel_rfl) rfl
              clear hs
              go_simp
              exact hK () wx (fun _ _ => rfl) hR
            refine StepAll.cons (fun D s wx hR (hDi : D 34 = false) hd hsh a' hs K hK => ?_) ?_
            · have e96 := hs.at_ 33 96 (u := .bool true) rfl (hd ⟨33, .data⟩ (by simp) rfl) (by kernel_rfl) (by kernel_rfl) rfl
              clear hs
              go_simp
              exact hK () wx (fun _ _ => rfl) hR
            refine StepAll.consG (fun D s wx hR (hDi : D 35 = false) hd hsh a' hs K hK => ?_) ?_
            · have eg := hs.at_ 34 97 (u := .bool true) rfl (hd ⟨34, .guard⟩ (by simp) rfl) (by kernel_rfl) (by kernel_rfl) rfl
              rw [if_pos (by rw [hs.wants (j := 34) (t := 97) rfl rfl eg (by kernel_rfl)]; rfl)]
              have e8 := hs.old 8 (u := .bool false) (by kernel_rfl) rfl
              clear hs
              go_simp
              exact hK () wx (fun _ _ => rfl) hR
            refine StepAll.consG (fun D s wx hR (hDi : D 36 = false) hd hsh a' hs K hK => ?_) ?_
            · have eg := hs.at_ 34 97 (u := .bool true) rfl (hd ⟨34, .guard⟩ (by simp) rfl) (by kernel_rfl) (by kernel_rfl) rfl
              rw [if_pos (by rw [hs.wants (j := 34) (t := 97) rfl rfl eg (by kernel_rfl)]; rfl)]
              have e98 := hs.at_ 35 98 (u := .bool false) rfl (hd ⟨35, .data⟩ (by simp) rfl) (by kernel_rfl) (by kernel_rfl) rfl
              clear hs
              go_simp
              exact hK () wx (fun _ _ => rfl) hR
            refine StepAll.consG (fun D s wx hR (hDi : D 37 = false) hd hsh a' hs K hK => ?_) ?_
            · have eg := hs.at_ 36 99 (u := .bool false) rfl (hd ⟨36, .guard⟩ (by simp) rfl) (by kernel_rfl) (by kernel_rfl) rfl
              rw [if_pos (by rw [hs.wants (j := 36) (t := 99) rfl rfl eg (by kernel_rfl)]; rfl)]
              have e3 := hs.old 3 (u := .pointer (some ⟨B1, 0, none⟩)) (by kernel_rfl) rfl
              clear hs
              have c0 : wx.cell? ⟨B1, 0, none⟩ = some (.slice A3 k c3) := (bcells hR _ _ HB1.out).trans HG0.out
              go_simp
              exact hK () wx (fun _ _ => rfl) hR
            refine StepAll.consG (fun D s wx hR (hDi : D 38 = false) hd hsh a' hs K hK => ?_) ?_
            · have eg := hs.at_ 36 99 (u := .bool false) rfl (hd ⟨36, .guard⟩ (by simp) rfl) (by kernel_rfl) (by kernel_rfl) rfl
              rw [if_pos (by rw [hs.wants (j := 36) (t := 99) rfl rfl eg (by kernel_rfl)]; rfl)]
              have e4 := hs.old 4 (u := .int .i64 (sv : Nat)) (by kernel_rfl) rfl
              clear hs
              go_simp
              exact hK () wx (fun _ _ => rfl) hR
            refine StepAll.consG (fun D s wx hR (hDi : D 39 = false) hd hsh a' hs K hK => ?_) ?_
            · have eg := hs.at_ 36 99 (u := .bool false) rfl (hd ⟨36, .guard⟩ (by simp) rfl) (by kernel_rfl) (by kernel_rfl) rfl
              rw [if_pos (by rw [hs.wants (j := 36) (t := 99) rfl rfl eg (by kernel_rfl)]; rfl)]
              have e5 := hs.old 5 (u := .pointer (some ⟨B2, 0, none⟩)) (by kernel_rfl) rfl
              clear hs
              have c0 : wx.cell? ⟨B2, 0, none⟩ = some (.int .i64 t.start) := (bcells hR _ _ HB2.out).trans HT0.out
              have c1 : wx.cell? ⟨B2, 1, none⟩ = some (.slice A1 j1 c1) := (bcells hR _ _ HB2.out).trans HT1.out
              have c2 : wx.cell? ⟨B2, 2, none⟩ = some (.slice A2 k c2) := (bcells hR _ _ HB2.out).trans HT2.out
              go_simp
              exact hK () wx (fun _ _ => rfl) hR
            refine StepAll.consG (fun D s wx hR (hDi : D 40 = false) hd hsh a' hs K hK => ?_) ?_
            · have eg := hs.at_ 36 99 (u := .bool false) rfl (hd ⟨36, .guard⟩ (by simp) rfl) (by kernel_rfl) (by kernel_rfl) rfl
              rw [if_pos (by rw [hs.wants (j := 36) (t := 99) rfl rfl eg (by kernel_rfl)]; rfl)]
              have e100 := hs.at_ 37 100 (u := .agg #[.slice A3 k c3]) rfl (hd ⟨37, .data⟩ (by simp) rfl) (by kernel_rfl) (by kernel_rfl) rfl
              have e101 := hs.at_ 38 101 (u := .int .i64 (sv : Nat)) rfl (hd ⟨38, .data⟩ (by simp) rfl) (by kernel_rfl) (by kernel_rfl) rfl
              have e102 := hs.at_ 39 102 (u := .agg #[.int .i64 t.start, .slice A1 j1 c1, .slice A2 k c2]) rfl (hd ⟨39, .data⟩ (by simp) rfl) (by kernel_rfl) (by kernel_rfl) rfl
              have g100 := getQ e100
              have g101 := getQ e101
              have g102 := getQ e102
              clear hs
              go_simp
              refine (proved_yes A3 k c3 ys sv _ t _ (HRG.out.up hR) HGO.out HV512.out (HTV.out.up hR) HEX.out HALL.out).mono ?_
              rintro e2 w2 ⟨rfl, hb2⟩
              exact hK () w2 (fun _ _ => rfl) (hR.trans (hb2.mono hR.size))
            refine StepAll.consG (fun D s wx hR (hDi : D 41 = false) hd hsh a' hs K hK => ?_) ?_
            · have eg := hs.at_ 34 97 (u := .bool true) rfl (hd ⟨34, .guard⟩ (by simp) rfl) (by kernel_rfl) (by kernel_rfl) rfl
              rw [if_pos (by rw [hs.wants (j := 34) (t := 97) rfl rfl eg (by kernel_rfl)]; rfl)]
              have e99 := hs.at_ 36 99 (u := .bool false) rfl (hd ⟨36, .data⟩ (by simp) rfl) (by kernel_rfl) (by kernel_rfl) rfl
              have e103 := hs.at_ 40 103 (u := .bool true) rfl (hd ⟨40, .data⟩ (by simp) rfl) (by kernel_rfl) (by kernel_rfl) rfl
              clear hs
              go_simp
              exact hK () wx (fun _ _ => rfl) hR
            refine StepAll.cons (fun D s wx hR (hDi : D 42 = false) hd hsh a' hs K hK => ?_) ?_
            · have e97 := hs.at_ 34 97 (u := .bool true) rfl (hd ⟨34, .data⟩ (by simp) rfl) (by kernel_rfl) (by kernel_rfl) rfl
              have e104 := hs.at_ 41 104 (u := .bool true) rfl (hd ⟨41, .data⟩ (by simp) rfl) (by kernel_rfl) (by kernel_rfl) rfl
              clear hs
              go_simp
              exact hK () wx (fun _ _ => rfl) hR
            refine StepAll.cons (fun D s wx hR (hDi : D 43 = false) hd hsh a' hs K hK => ?_) ?_
            · have e105 := hs.at_ 42 105 (u := .bool true) rfl (hd ⟨42, .data⟩ (by simp) rfl) (by kernel_rfl) (by kernel_rfl) rfl
              clear hs
              go_simp
              exact hK () wx (fun _ _ => rfl) hR
            exact StepAll.nil
          · intro D s wx hR hD
            simp only [putA, Act.put, List.setIfInBounds_toArray, List.set_cons_zero, List.set_cons_succ]
            have HSB2 := Lib.hid (HS7.out.quiet hR)
            clear hR hD HS7
            go_wp2
            go_ret
            exact ⟨rfl, HSB2.out.below⟩
end Go.Proofs.Ytfgebdioffeliaa
