/- LineSet of the reference gives some graph. Printed by gen_lineset.py. -/
import Derived.Test.YtdbgoekemffimaaSGraphD
import Derived.Test.YtdbgoekemffimaaSGraph
namespace Go.Proofs.Ytdbgoekemffimaa
set_option linter.unusedVariables false
set_option linter.unusedSimpArgs false
open Go.ChangeShapes Go.WideShapes Go.ChangeAt Go.RowKit

def GivesL (n : Nat) (w : World) (e : Ending) (w' : World) : Prop := ∃ A' n' c' ok ys, e = .returned (.tuple #[.agg #[.slice A' n' c'], .bool ok]) ∧ (ok = true → n' = n) ∧ ys.length = n' ∧ St w w' [rInts (.slice A' n' c') ys]
set_option maxRecDepth 100000 in
set_option maxHeartbeats 1000000 in
theorem lineSet_gives (A : Option Addr) (n c : Nat) (xs : List Int) (a b : Nat) (ha : a < n) (hb : b < n) (w : World) (h : RdI .i64 w w.heap.size A n c xs) :
    Calls Try.prog 122 #[.agg #[.slice A n c], .int .i64 (a : Int), .int .i64 (b : Int), .bool true] w (GivesL n w) := by
  have hlen := h.len
  have hcap := h.cap
  have hmax := h.capMax
  unfold maxLen at hmax
  have HXL := Bx.mk hlen; clear hlen
  have H := Lib.hid h; clear h
  have HS0 : Hid (St w ((w.alloc (.cells #[.slice A n c] 37)).alloc (.cells #[.slice none 0 0] 37)) [rBlk w.heap.size 37 #[.slice A n c], rBlk (w.heap.size + 1) 37 #[.slice none 0 0]]) := Lib.hid (by
    have := ((St.refl w).alloc #[.slice A n c] 37).alloc #[.slice none 0 0] 37
    simpa using this)
  obtain ⟨go, hgo⟩ : ∃ y, graphOk xs = y := ⟨_, rfl⟩
  have HG := Bx.mk hgo
  clear hgo
  go_enter Try.func122, Try.ntmps122
  go_wp2_with fail
  refine (graphValid_spec A n c xs _ (H.out.up HS0.out.below)).mono ?_
  rw [HG.out]
  rintro e w1 ⟨rfl, hb1⟩
  have HS1 := Lib.hid (HS0.out.quiet hb1)
  have q0 : ∀ j, w1.cell? ⟨w.heap.size, j, none⟩ = _ := HS1.out.cells 0 rfl
  clear hb1 HS0
  cases go with
  | false =>
    have q1 : ∀ j, w1.cell? ⟨w.heap.size + 1, j, none⟩ = _ := HS1.out.cells 1 rfl
    have f1 := HS1.out.free 1 rfl
    go_wp2
    refine bodyPost_ret (v := .tuple #[.agg #[.slice none 0 0], .bool false]) (by simp [results, Try.results122, go_sem, q1]) rfl ⟨none, 0, 0, false, [], rfl, (fun h => by cases h), rfl, ?_⟩
    exact ((HS1.out.set 1 rfl 0 (.slice none 0 0)).call (rInts_nil _ _ (Below.refl _ _))).pick [2] (by decide) rfl rfl
  | true =>
    have hn9 : n ≤ 9 := by rw [← HXL.out]; exact (graphOk_len xs HG.out).2
    obtain ⟨nm, hnm⟩ : ∃ k, n = k + 1 := ⟨n - 1, by omega⟩
    have hnmi : (n : Int) - 1 = (nm : Int) := by omega
    have hnmw : IntKind.i64.wrap (nm : Int) = (nm : Int) := by rw [IntKind.wrap_i64] <;> omega
    have ham : a ≤ nm := by omega
    have hbm : b ≤ nm := by omega
    clear hnm
    go_wp2_with fail
    refine (l1In_yes (a : Int) 0 (nm : Int) _ (by omega) (by omega)).mono ?_
    rintro e w2 ⟨rfl, rfl⟩
    go_wp2_with fail
    refine (l1In_yes (b : Int) 0 (nm : Int) _ (by omega) (by omega)).mono ?_
    rintro e w3 ⟨rfl, rfl⟩
    by_cases hab : a = b
    · have habi : (a : Int) = (b : Int) := by omega
      have q1 : ∀ j, w1.cell? ⟨w.heap.size + 1, j, none⟩ = _ := HS1.out.cells 1 rfl
      have f1 := HS1.out.free 1 rfl
      go_wp2
      refine bodyPost_ret (v := .tuple #[.agg #[.slice none 0 0], .bool false]) (by simp [results, Try.results122, go_sem, q1]) rfl ⟨none, 0, 0, false, [], rfl, (fun h => by cases h), rfl, ?_⟩
      exact ((HS1.out.set 1 rfl 0 (.slice none 0 0)).call (rInts_nil _ _ (Below.refl _ _))).pick [2] (by decide) rfl rfl
    · have habi : ¬ (a : Int) = (b : Int) := by omega
      have habb : ((a : Int) == (b : Int)) = false := by simp; exact habi
      obtain ⟨g1, hg1⟩ : ∃ g, w1.heap.size = g := ⟨_, rfl⟩
      have HS2 : Hid (St w (w1.alloc (.cells #[] 3)) [rBlk w.heap.size 37 #[.slice A n c], rBlk (w.heap.size + 1) 37 #[.slice none 0 0], rInts (.slice (some ⟨g1, 0, none⟩) 0 0) []]) := Lib.hid (HS1.out.call (St.newI w1 g1 hg1.symm))
      have HO : Hid ((w1.alloc (.cells #[] 3)).ownsRow 0 3 1 (.slice (some ⟨g1, 0, none⟩) 0 0) 0 (ints [])) := Lib.hid (HS2.out.ownI 2 rfl)
      have HXR := Lib.hid (H.out.up HS2.out.below).row
      have HLAW : Hid (∀ v2 w2, w2.ownsRow 0 3 1 v2 (0 + n) (ints [] ++ ints xs) → (w1.alloc (.cells #[] 3)).grownBy w2 (Value.slice (some ⟨g1, 0, none⟩) 0 0).ownBlock → (v2.ownBlock = (Value.slice (some ⟨g1, 0, none⟩) 0 0).ownBlock ∨ v2.ownBlock = some (w1.alloc (.cells #[] 3)).heap.size) → St w w2 [rBlk w.heap.size 37 #[.slice A n c], rBlk (w.heap.size + 1) 37 #[.slice none 0 0], rInts v2 xs]) := Lib.hid fun v2 w2 h1 h2 h3 => by
        have := HS2.out.appI (ys := xs) 2 rfl (by rw [HXL.out]; rfl) h1 H.out.wf h2 h3
        rw [List.nil_append] at this
        exact this
      have q3 : ∀ j, (w1.alloc (.cells #[] 3)).cell? ⟨w.heap.size, j, none⟩ = _ := HS2.out.cells 0 rfl
      clear HS1 q0
      try rw [hg1]
      go_upto_region 4 with (at_builtin; refine wp_app elInt rfl _ _ rfl 0 (.slice (some ⟨g1, 0, none⟩) 0 0) 0 (ints []) rfl HO.out _ A n c (ints xs) rfl HXR.out (ints_cell _) (by omega) (by omega) (Nat.zero_le _) ?_; intro v2 w2 hown2 hg2 hat2; obtain ⟨A4, c4, hv⟩ := own_form hown2; rw [Nat.zero_add] at hv; subst hv; have HS3 := Lib.hid (HLAW.out _ w2 hown2 hg2 hat2); clear hown2 hg2 hat2)
      obtain ⟨gb, rfl⟩ := HS3.out.rowAt 2 rfl (by omega)
      obtain ⟨b0, off, rfl, hb0, hcell⟩ := H.out.at_ (by omega)
      obtain ⟨g10, hg10⟩ : ∃ g, w2.heap.size = g := ⟨_, rfl⟩
      obtain ⟨w4, hw4⟩ : ∃ y, w2.alloc (.cells #[.slice (some ⟨gb, 0, none⟩) n c4] 37) = y := ⟨_, rfl⟩
      have HS4 : Hid (St w w4 [rBlk w.heap.size 37 #[.slice (some ⟨b0, off, none⟩) n c], rBlk (w.heap.size + 1) 37 #[.slice none 0 0], rBlk g10 37 #[.slice (some ⟨gb, 0, none⟩) n c4], rInts (.slice (some ⟨gb, 0, none⟩) n c4) xs]) := Lib.hid (by
        rw [← hg10, ← hw4]
        exact (HS3.out.alloc _ _).pick [0, 1, 3, 2] (by decide) rfl rfl)
      clear HS3 HS2 HO HXR HLAW hg1 q3
      try rw [hg10]
      try rw [hw4]
      clear hw4 hg10
      obtain ⟨x, hx⟩ : ∃ x, xs[a]? = some x := ⟨_, List.getElem?_eq_getElem (by rw [HXL.out]; omega)⟩
      have hcx : w4.cell? ⟨b0, off + a, none⟩ = some (.int .i64 x) := (bcells HS4.out.below b0 _ hb0).trans (hcell a x hx)
      have hai : (a : Int) < (n : Int) := by omega
      have hbi : (b : Int) < (n : Int) := by omega
      have HAT : Hid (∀ (k : Nat) (x : Int), xs[k]? = some x → 0 ≤ x ∧ x < 512) := Lib.hid fun k x hx => by
        have h1 := graphOk_at xs HG.out k x hx
        have : (2 : Int) ^ xs.length ≤ 2 ^ 9 := pow_le_int _ _ (graphOk_len xs HG.out).2
        omega
      have hx0 := (HAT.out a x hx).1
      have q0 : ∀ j, w4.cell? ⟨w.heap.size, j, none⟩ = _ := HS4.out.cells 0 rfl
      clear hcell hx
      go_wp2_with fail
      refine (l1Bit_any x b hx0 (by omega) _).mono ?_
      rintro e w5 ⟨rfl, rfl⟩
      obtain ⟨bt, hbt⟩ : ∃ y, x / 2 ^ b % 2 = y := ⟨_, rfl⟩
      try rw [hbt]
      clear hbt hcx q0 hx0
      by_cases hb1 : bt = 1
      · have hbb : (bt == 1) = true := by simp; exact hb1
        have q1 : ∀ j, (w4).cell? ⟨w.heap.size + 1, j, none⟩ = _ := HS4.out.cells 1 rfl
        have q2 : ∀ j, (w4).cell? ⟨g10, j, none⟩ = _ := HS4.out.cells 2 rfl
        have f1 := HS4.out.free 1 rfl
        go_wp2
        refine bodyPost_ret (v := .tuple #[.agg #[.slice (some ⟨gb, 0, none⟩) n c4], .bool true]) (by simp [results, Try.results122, go_sem, q1]) rfl ⟨some ⟨gb, 0, none⟩, n, c4, true, xs, rfl, fun _ => rfl, by exact HXL.out, ?_⟩
        exact (HS4.out.set 1 rfl 0 (.slice (some ⟨gb, 0, none⟩) n c4)).pick [3] (by decide) rfl rfl
      · have hbb : (bt == 1) = false := by simp; exact hb1
        obtain ⟨pb, hpb⟩ : ∃ p : Nat, 2 ^ b = p := ⟨_, rfl⟩
        have hpb9 : pb ≤ 2 ^ 9 := by rw [← hpb]; exact Nat.pow_le_pow_right (by omega) (by omega)
        have HPW : Bx (IntKind.i64.wrap ((2 : Int) ^ b) = (pb : Int)) := Bx.mk (by rw [show ((2 : Int) ^ b) = (pb : Int) by rw [← hpb]; simp]; rw [IntKind.wrap_i64] <;> omega)
        have HPB : Bx (pb ≤ 512) := Bx.mk (by omega)
        obtain ⟨x, hx⟩ : ∃ x, (xs)[a]? = some x := ⟨_, List.getElem?_eq_getElem (by rw [HXL.out]; omega)⟩
        have hx5 : 0 ≤ x ∧ x < 512 := HAT.out _ x hx
        have HX0 : Bx (0 ≤ x ∧ x < 4611686018427387904) := Bx.mk (by omega)
        obtain ⟨y, hy⟩ : ∃ y, ((x.toNat ^^^ (pb : Int).toNat : Nat) : Int) = y := ⟨_, rfl⟩
        have hy2 : x.toNat ^^^ (pb : Int).toNat < 2 ^ 10 := Nat.xor_lt_two_pow (by omega) (by omega)
        have HX := Bx.mk hx
        have HY := Bx.mk hy
        have HYW : Bx ((Lit.int .i64 y).wf = true) := Bx.mk (wf_i64_mk (by omega))
        clear hx hy hy2 hpb hpb9 hx5
        go_upto_region 5 with (fail)
        refine wp_reg (σ := Unit) (by kernel_rfl) (by kernel_rfl) (by kernel_rfl)
          (fun s i => match i with
            | 0 => .pointer (some ⟨g10, 0, none⟩)
            | 1 => .slice (some ⟨gb, 0, none⟩) n c4
            | 2 => .int .i64 (a : Int)
            | 3 => .pointer (some ⟨g10, 0, none⟩)
            | 4 => .slice (some ⟨gb, 0, none⟩) n c4
            | 5 => .int .i64 (a : Int)
            | 6 => .pointer (some ⟨gb, a, none⟩)
            | 7 => .int .i64 x
            | 8 => .int .i64 (b : Int)
            | 9 => .int .i64 (pb : Nat)
            | 10 => .int .i64 y
            | 11 => .pointer (some ⟨gb, a, none⟩)
            | _ => undef)
          (fun D s wa => Sn w wa fun i => match i with
            | 0 => some (rBlk w.heap.size 37 #[.slice (some ⟨b0, off, none⟩) n c])
            | 1 => some (rBlk (w.heap.size + 1) 37 #[.slice none 0 0])
            | 2 => some (rBlk g10 37 #[.slice (some ⟨gb, 0, none⟩) n c4])
            | 3 => some (rInts (.slice (some ⟨gb, 0, none⟩) n c4) (if D 12 = true then (xs).set (a) y else xs))
            | _ => none)
          () ?_ ?_ ?_
        · intro D hD
          refine ((Sn.of_st HS4.out).quiet ((Below.refl _ _).drew)).congr fun i => ?_
          match i with
          | 0 => rfl
          | 1 => rfl
          | 2 => rfl
          | 3 => simp only [hD 12 (by decide)]; rfl
          | q + 4 => rfl
        · refine StepAll.cons (fun D s wa hR (hDi : D 0 = false) hd hsh a' hs K hK => ?_) ?_
          · have e10 := hs.old 10 (u := .pointer (some ⟨g10, 0, none⟩)) (by kernel_rfl) rfl
            clear hs
            go_simp
            exact hK s wa (fun _ _ => rfl) hR
          refine StepAll.cons (fun D s wa hR (hDi : D 1 = false) hd hsh a' hs K hK => ?_) ?_
          · have e53 := hs.at_ 0 53 (u := .pointer (some ⟨g10, 0, none⟩)) rfl (hd ⟨0, .data⟩ (by simp) rfl) (by kernel_rfl) (by kernel_rfl) rfl
            clear hs
            have kb : Blk wa (g10) 37 #[.slice (some ⟨gb, 0, none⟩) n c4] := hR.blk 2 rfl
            have c0 : wa.cell? ⟨g10, 0, none⟩ = some (.slice (some ⟨gb, 0, none⟩) n c4) := kb.cell 0
            go_simp
            exact hK s wa (fun _ _ => rfl) hR
          refine StepAll.cons (fun D s wa hR (hDi : D 2 = false) hd hsh a' hs K hK => ?_) ?_
          · have e1 := hs.old 1 (u := .int .i64 (a : Int)) (by kernel_rfl) rfl
            clear hs
            go_simp
            exact hK s wa (fun _ _ => rfl) hR
          refine StepAll.cons (fun D s wa hR (hDi : D 3 = false) hd hsh a' hs K hK => ?_) ?_
          · have e10 := hs.old 10 (u := .pointer (some ⟨g10, 0, none⟩)) (by kernel_rfl) rfl
            clear hs
            go_simp
            exact hK s wa (fun _ _ => rfl) hR
          refine StepAll.cons (fun D s wa hR (hDi : D 4 = false) hd hsh a' hs K hK => ?_) ?_
          · have e56 := hs.at_ 3 56 (u := .pointer (some ⟨g10, 0, none⟩)) rfl (hd ⟨3, .data⟩ (by simp) rfl) (by kernel_rfl) (by kernel_rfl) rfl
            clear hs
            have kb : Blk wa (g10) 37 #[.slice (some ⟨gb, 0, none⟩) n c4] := hR.blk 2 rfl
            have c0 : wa.cell? ⟨g10, 0, none⟩ = some (.slice (some ⟨gb, 0, none⟩) n c4) := kb.cell 0
            go_simp
            exact hK s wa (fun _ _ => rfl) hR
          refine StepAll.cons (fun D s wa hR (hDi : D 5 = false) hd hsh a' hs K hK => ?_) ?_
          · have e1 := hs.old 1 (u := .int .i64 (a : Int)) (by kernel_rfl) rfl
            clear hs
            go_simp
            exact hK s wa (fun _ _ => rfl) hR
          refine StepAll.cons (fun D s wa hR (hDi : D 6 = false) hd hsh a' hs K hK => ?_) ?_
          · have e57 := hs.at_ 4 57 (u := .slice (some ⟨gb, 0, none⟩) n c4) rfl (hd ⟨4, .data⟩ (by simp) rfl) (by kernel_rfl) (by kernel_rfl) rfl
            have e58 := hs.at_ 5 58 (u := .int .i64 (a : Int)) rfl (hd ⟨5, .data⟩ (by simp) rfl) (by kernel_rfl) (by kernel_rfl) rfl
            clear hs
            go_simp
            exact hK s wa (fun _ _ => rfl) hR
          refine StepAll.cons (fun D s wa hR (hDi : D 7 = false) hd hsh a' hs K hK => ?_) ?_
          · have e59 := hs.at_ 6 59 (u := .pointer (some ⟨gb, a, none⟩)) rfl (hd ⟨6, .data⟩ (by simp) rfl) (by kernel_rfl) (by kernel_rfl) rfl
            clear hs
            have n10 : D 10 = false := hsh.no hDi 10 rfl ⟨7, .data⟩ (by simp) rfl rfl
            have n12 : D 12 = false := hsh.no n10 12 rfl ⟨10, .data⟩ (by simp) rfl rfl
            have c0 := (hR.cellI 3 (xs := xs) (by simp only [n12] <;> rfl) HXL.out (a) x HX.out).1
            go_simp
            exact hK s wa (fun _ _ => rfl) hR
          refine StepAll.cons (fun D s wa hR (hDi : D 8 = false) hd hsh a' hs K hK => ?_) ?_
          · have e2 := hs.old 2 (u := .int .i64 (b : Int)) (by kernel_rfl) rfl
            clear hs
            go_simp
            exact hK s wa (fun _ _ => rfl) hR
          refine StepAll.cons (fun D s wa hR (hDi : D 9 = false) hd hsh a' hs K hK => ?_) ?_
          · have e61 := hs.at_ 8 61 (u := .int .i64 (b : Int)) rfl (hd ⟨8, .data⟩ (by simp) rfl) (by kernel_rfl) (by kernel_rfl) rfl
            clear hs
            have hp := HPW.out
            go_simp
            exact hK s wa (fun _ _ => rfl) hR
          refine StepAll.cons (fun D s wa hR (hDi : D 10 = false) hd hsh a' hs K hK => ?_) ?_
          · have e60 := hs.at_ 7 60 (u := .int .i64 x) rfl (hd ⟨7, .data⟩ (by simp) rfl) (by kernel_rfl) (by kernel_rfl) rfl
            have e62 := hs.at_ 9 62 (u := .int .i64 (pb : Nat)) rfl (hd ⟨9, .data⟩ (by simp) rfl) (by kernel_rfl) (by kernel_rfl) rfl
            have g60 := getQ e60
            have g62 := getQ e62
            clear hs
            go_simp
            refine (l1Other_any x (pb : Nat) HX0.out.1 HX0.out.2 (by omega) (by have := HPB.out; omega) _).mono ?_
            rw [HY.out]
            rintro e2 w2 ⟨rfl, rfl⟩
            exact hK s wa (fun _ _ => rfl) hR
          refine StepAll.cons (fun D s wa hR (hDi : D 11 = false) hd hsh a' hs K hK => ?_) ?_
          · have e54 := hs.at_ 1 54 (u := .slice (some ⟨gb, 0, none⟩) n c4) rfl (hd ⟨1, .data⟩ (by simp) rfl) (by kernel_rfl) (by kernel_rfl) rfl
            have e55 := hs.at_ 2 55 (u := .int .i64 (a : Int)) rfl (hd ⟨2, .data⟩ (by simp) rfl) (by kernel_rfl) (by kernel_rfl) rfl
            clear hs
            go_simp
            exact hK s wa (fun _ _ => rfl) hR
          refine StepAll.cons (fun D s wa hR (hDi : D 12 = false) hd hsh a' hs K hK => ?_) ?_
          · have e64 := hs.at_ 11 64 (u := .pointer (some ⟨gb, a, none⟩)) rfl (hd ⟨11, .data⟩ (by simp) rfl) (by kernel_rfl) (by kernel_rfl) rfl
            have e63 := hs.at_ 10 63 (u := .int .i64 y) rfl (hd ⟨10, .data⟩ (by simp) rfl) (by kernel_rfl) (by kernel_rfl) rfl
            clear hs
            have hc := hR.cellI 3 (xs := xs) (by simp only [hDi] <;> rfl) HXL.out (a) x HX.out
            have c0 := hc.1
            have f0 := hc.2
            go_simp
            exact hK s _ (fun _ _ => rfl) ((hR.putI 3 (xs := xs) (by simp only [hDi]; rfl) HXL.out (a) y HYW.out).congr
                (fun i => by
                  match i with
                  | 0 => rfl
                  | 1 => rfl
                  | 2 => rfl
                  | 3 => rfl
                  | q + 4 => exact (if_neg (show ¬ (q + 4 = 3) by omega)).symm))
          exact StepAll.nil
        · intro D s wa hR hD
          simp only [putA, Act.put, List.setIfInBounds_toArray, List.set_cons_zero, List.set_cons_succ]
          have HS5 : Hid (St w wa [rBlk w.heap.size 37 #[.slice (some ⟨b0, off, none⟩) n c], rBlk (w.heap.size + 1) 37 #[.slice none 0 0], rBlk g10 37 #[.slice (some ⟨gb, 0, none⟩) n c4], rInts (.slice (some ⟨gb, 0, none⟩) n c4) ((xs).set (a) y)]) := Lib.hid (hR.to_st [0, 1, 2, 3] (by decide) (by simp only [List.map, hD 12 (by decide)] <;> rfl))
          clear hR hD HS4
          obtain ⟨ys, hys⟩ : ∃ zs, xs.set a y = zs := ⟨_, rfl⟩
          have HXL2 : Bx (ys.length = n) := Bx.mk (by rw [← hys, List.length_set]; exact HXL.out)
          have HAT2 : Hid (∀ x, ys[b]? = some x → 0 ≤ x ∧ x < 512) := Lib.hid fun x hx => by rw [← hys, List.getElem?_set_ne hab] at hx; exact HAT.out b x hx
          rw [hys] at HS5
          clear hys HX HY HYW HX0 HPW HPB
          obtain ⟨pb, hpb⟩ : ∃ p : Nat, 2 ^ a = p := ⟨_, rfl⟩
          have hpb9 : pb ≤ 2 ^ 9 := by rw [← hpb]; exact Nat.pow_le_pow_right (by omega) (by omega)
          have HPW : Bx (IntKind.i64.wrap ((2 : Int) ^ a) = (pb : Int)) := Bx.mk (by rw [show ((2 : Int) ^ a) = (pb : Int) by rw [← hpb]; simp]; rw [IntKind.wrap_i64] <;> omega)
          have HPB : Bx (pb ≤ 512) := Bx.mk (by omega)
          obtain ⟨x, hx⟩ : ∃ x, (ys)[b]? = some x := ⟨_, List.getElem?_eq_getElem (by rw [HXL2.out]; omega)⟩
          have hx5 : 0 ≤ x ∧ x < 512 := HAT2.out x hx
          have HX0 : Bx (0 ≤ x ∧ x < 4611686018427387904) := Bx.mk (by omega)
          obtain ⟨y, hy⟩ : ∃ y, ((x.toNat ^^^ (pb : Int).toNat : Nat) : Int) = y := ⟨_, rfl⟩
          have hy2 : x.toNat ^^^ (pb : Int).toNat < 2 ^ 10 := Nat.xor_lt_two_pow (by omega) (by omega)
          have HX := Bx.mk hx
          have HY := Bx.mk hy
          have HYW : Bx ((Lit.int .i64 y).wf = true) := Bx.mk (wf_i64_mk (by omega))
          clear hx hy hy2 hpb hpb9 hx5
          go_upto_region 6 with (fail)
          refine wp_reg (σ := Unit) (by kernel_rfl) (by kernel_rfl) (by kernel_rfl)
            (fun s i => match i with
              | 0 => .pointer (some ⟨g10, 0, none⟩)
              | 1 => .slice (some ⟨gb, 0, none⟩) n c4
              | 2 => .int .i64 (b : Int)
              | 3 => .pointer (some ⟨g10, 0, none⟩)
              | 4 => .slice (some ⟨gb, 0, none⟩) n c4
              | 5 => .int .i64 (b : Int)
              | 6 => .pointer (some ⟨gb, b, none⟩)
              | 7 => .int .i64 x
              | 8 => .int .i64 (a : Int)
              | 9 => .int .i64 (pb : Nat)
              | 10 => .int .i64 y
              | 11 => .pointer (some ⟨gb, b, none⟩)
              | _ => undef)
            (fun D s wb => Sn w wb fun i => match i with
              | 0 => some (rBlk w.heap.size 37 #[.slice (some ⟨b0, off, none⟩) n c])
              | 1 => some (rBlk (w.heap.size + 1) 37 #[.slice none 0 0])
              | 2 => some (rBlk g10 37 #[.slice (some ⟨gb, 0, none⟩) n c4])
              | 3 => some (rInts (.slice (some ⟨gb, 0, none⟩) n c4) (if D 12 = true then (ys).set (b) y else ys))
              | _ => none)
            () ?_ ?_ ?_
          · intro D hD
            refine ((Sn.of_st HS5.out).quiet ((Below.refl _ _).drew)).congr fun i => ?_
            match i with
            | 0 => rfl
            | 1 => rfl
            | 2 => rfl
            | 3 => simp only [hD 12 (by decide)]; rfl
            | q + 4 => rfl
          · refine StepAll.cons (fun D s wb hR (hDi : D 0 = false) hd hsh a' hs K hK => ?_) ?_
            · have e10 := hs.old 10 (u := .pointer (some ⟨g10, 0, none⟩)) (by kernel_rfl) rfl
              clear hs
              go_simp
              exact hK s wb (fun _ _ => rfl) hR
            refine StepAll.cons (fun D s wb hR (hDi : D 1 = false) hd hsh a' hs K hK => ?_) ?_
            · have e65 := hs.at_ 0 65 (u := .pointer (some ⟨g10, 0, none⟩)) rfl (hd ⟨0, .data⟩ (by simp) rfl) (by kernel_rfl) (by kernel_rfl) rfl
              clear hs
              have kb : Blk wb (g10) 37 #[.slice (some ⟨gb, 0, none⟩) n c4] := hR.blk 2 rfl
              have c0 : wb.cell? ⟨g10, 0, none⟩ = some (.slice (some ⟨gb, 0, none⟩) n c4) := kb.cell 0
              go_simp
              exact hK s wb (fun _ _ => rfl) hR
            refine StepAll.cons (fun D s wb hR (hDi : D 2 = false) hd hsh a' hs K hK => ?_) ?_
            · have e2 := hs.old 2 (u := .int .i64 (b : Int)) (by kernel_rfl) rfl
              clear hs
              go_simp
              exact hK s wb (fun _ _ => rfl) hR
            refine StepAll.cons (fun D s wb hR (hDi : D 3 = false) hd hsh a' hs K hK => ?_) ?_
            · have e10 := hs.old 10 (u := .pointer (some ⟨g10, 0, none⟩)) (by kernel_rfl) rfl
              clear hs
              go_simp
              exact hK s wb (fun _ _ => rfl) hR
            refine StepAll.cons (fun D s wb hR (hDi : D 4 = false) hd hsh a' hs K hK => ?_) ?_
            · have e68 := hs.at_ 3 68 (u := .pointer (some ⟨g10, 0, none⟩)) rfl (hd ⟨3, .data⟩ (by simp) rfl) (by kernel_rfl) (by kernel_rfl) rfl
              clear hs
              have kb : Blk wb (g10) 37 #[.slice (some ⟨gb, 0, none⟩) n c4] := hR.blk 2 rfl
              have c0 : wb.cell? ⟨g10, 0, none⟩ = some (.slice (some ⟨gb, 0, none⟩) n c4) := kb.cell 0
              go_simp
              exact hK s wb (fun _ _ => rfl) hR
            refine StepAll.cons (fun D s wb hR (hDi : D 5 = false) hd hsh a' hs K hK => ?_) ?_
            · have e2 := hs.old 2 (u := .int .i64 (b : Int)) (by kernel_rfl) rfl
              clear hs
              go_simp
              exact hK s wb (fun _ _ => rfl) hR
            refine StepAll.cons (fun D s wb hR (hDi : D 6 = false) hd hsh a' hs K hK => ?_) ?_
            · have e69 := hs.at_ 4 69 (u := .slice (some ⟨gb, 0, none⟩) n c4) rfl (hd ⟨4, .data⟩ (by simp) rfl) (by kernel_rfl) (by kernel_rfl) rfl
              have e70 := hs.at_ 5 70 (u := .int .i64 (b : Int)) rfl (hd ⟨5, .data⟩ (by simp) rfl) (by kernel_rfl) (by kernel_rfl) rfl
              clear hs
              go_simp
              exact hK s wb (fun _ _ => rfl) hR
            refine StepAll.cons (fun D s wb hR (hDi : D 7 = false) hd hsh a' hs K hK => ?_) ?_
            · have e71 := hs.at_ 6 71 (u := .pointer (some ⟨gb, b, none⟩)) rfl (hd ⟨6, .data⟩ (by simp) rfl) (by kernel_rfl) (by kernel_rfl) rfl
              clear hs
              have n10 : D 10 = false := hsh.no hDi 10 rfl ⟨7, .data⟩ (by simp) rfl rfl
              have n12 : D 12 = false := hsh.no n10 12 rfl ⟨10, .data⟩ (by simp) rfl rfl
              have c0 := (hR.cellI 3 (xs := ys) (by simp only [n12] <;> rfl) HXL2.out (b) x HX.out).1
              go_simp
              exact hK s wb (fun _ _ => rfl) hR
            refine StepAll.cons (fun D s wb hR (hDi : D 8 = false) hd hsh a' hs K hK => ?_) ?_
            · have e1 := hs.old 1 (u := .int .i64 (a : Int)) (by kernel_rfl) rfl
              clear hs
              go_simp
              exact hK s wb (fun _ _ => rfl) hR
            refine StepAll.cons (fun D s wb hR (hDi : D 9 = false) hd hsh a' hs K hK => ?_) ?_
            · have e73 := hs.at_ 8 73 (u := .int .i64 (a : Int)) rfl (hd ⟨8, .data⟩ (by simp) rfl) (by kernel_rfl) (by kernel_rfl) rfl
              clear hs
              have hp := HPW.out
              go_simp
              exact hK s wb (fun _ _ => rfl) hR
            refine StepAll.cons (fun D s wb hR (hDi : D 10 = false) hd hsh a' hs K hK => ?_) ?_
            · have e72 := hs.at_ 7 72 (u := .int .i64 x) rfl (hd ⟨7, .data⟩ (by simp) rfl) (by kernel_rfl) (by kernel_rfl) rfl
              have e74 := hs.at_ 9 74 (u := .int .i64 (pb : Nat)) rfl (hd ⟨9, .data⟩ (by simp) rfl) (by kernel_rfl) (by kernel_rfl) rfl
              have g72 := getQ e72
              have g74 := getQ e74
              clear hs
              go_simp
              refine (l1Other_any x (pb : Nat) HX0.out.1 HX0.out.2 (by omega) (by have := HPB.out; omega) _).mono ?_
              rw [HY.out]
              rintro e2 w2 ⟨rfl, rfl⟩
              exact hK s wb (fun _ _ => rfl) hR
            refine StepAll.cons (fun D s wb hR (hDi : D 11 = false) hd hsh a' hs K hK => ?_) ?_
            · have e66 := hs.at_ 1 66 (u := .slice (some ⟨gb, 0, none⟩) n c4) rfl (hd ⟨1, .data⟩ (by simp) rfl) (by kernel_rfl) (by kernel_rfl) rfl
              have e67 := hs.at_ 2 67 (u := .int .i64 (b : Int)) rfl (hd ⟨2, .data⟩ (by simp) rfl) (by kernel_rfl) (by kernel_rfl) rfl
              clear hs
              go_simp
              exact hK s wb (fun _ _ => rfl) hR
            refine StepAll.cons (fun D s wb hR (hDi : D 12 = false) hd hsh a' hs K hK => ?_) ?_
            · have e76 := hs.at_ 11 76 (u := .pointer (some ⟨gb, b, none⟩)) rfl (hd ⟨11, .data⟩ (by simp) rfl) (by kernel_rfl) (by kernel_rfl) rfl
              have e75 := hs.at_ 10 75 (u := .int .i64 y) rfl (hd ⟨10, .data⟩ (by simp) rfl) (by kernel_rfl) (by kernel_rfl) rfl
              clear hs
              have hc := hR.cellI 3 (xs := ys) (by simp only [hDi] <;> rfl) HXL2.out (b) x HX.out
              have c0 := hc.1
              have f0 := hc.2
              go_simp
              exact hK s _ (fun _ _ => rfl) ((hR.putI 3 (xs := ys) (by simp only [hDi]; rfl) HXL2.out (b) y HYW.out).congr
                  (fun i => by
                    match i with
                    | 0 => rfl
                    | 1 => rfl
                    | 2 => rfl
                    | 3 => rfl
                    | q + 4 => exact (if_neg (show ¬ (q + 4 = 3) by omega)).symm))
            exact StepAll.nil
          · intro D s wb hR hD
            simp only [putA, Act.put, List.setIfInBounds_toArray, List.set_cons_zero, List.set_cons_succ]
            have HS6 : Hid (St w wb [rBlk w.heap.size 37 #[.slice (some ⟨b0, off, none⟩) n c], rBlk (w.heap.size + 1) 37 #[.slice none 0 0], rBlk g10 37 #[.slice (some ⟨gb, 0, none⟩) n c4], rInts (.slice (some ⟨gb, 0, none⟩) n c4) ((ys).set (b) y)]) := Lib.hid (hR.to_st [0, 1, 2, 3] (by decide) (by simp only [List.map, hD 12 (by decide)] <;> rfl))
            clear hR hD HS5
            have q1 : ∀ j, (wb).cell? ⟨w.heap.size + 1, j, none⟩ = _ := HS6.out.cells 1 rfl
            have q2 : ∀ j, (wb).cell? ⟨g10, j, none⟩ = _ := HS6.out.cells 2 rfl
            have f1 := HS6.out.free 1 rfl
            go_wp2
            refine bodyPost_ret (v := .tuple #[.agg #[.slice (some ⟨gb, 0, none⟩) n c4], .bool true]) (by simp [results, Try.results122, go_sem, q1]) rfl ⟨some ⟨gb, 0, none⟩, n, c4, true, ys.set b y, rfl, fun _ => rfl, by rw [List.length_set]; exact HXL2.out, ?_⟩
            exact (HS6.out.set 1 rfl 0 (.slice (some ⟨gb, 0, none⟩) n c4)).pick [3] (by decide) rfl rfl
end Go.Proofs.Ytdbgoekemffimaa
