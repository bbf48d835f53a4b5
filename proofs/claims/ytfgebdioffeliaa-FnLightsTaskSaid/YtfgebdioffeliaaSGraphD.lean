/- RingOf and GridOf of the reference give some graph. Printed by gen_graphd.py. -/
import Derived.Test.YtfgebdioffeliaaSGraphH
import Derived.Test.YtfgebdioffeliaaSPack
namespace Go.Proofs.Ytfgebdioffeliaa
set_option linter.unusedVariables false
set_option linter.unusedSimpArgs false
open Go.ChangeShapes Go.WideShapes Go.ChangeAt Go.RowKit

/-- a new row of noughts, out of make -/
theorem St.ofMakeN {w w' : World} {n : Nat} (hown : w'.ownsRow w.heap.size 3 1 (.slice (some ⟨w.heap.size, 0, none⟩) n n) n (madeCells (Value.int .i64 0).cells (n * 1)).toList) (hg : w.grownBy w' none) : St w w' [rInts (.slice (some ⟨w.heap.size, 0, none⟩) n n) (List.replicate n 0)] := by
  have e : (madeCells (Value.int .i64 0).cells (n * 1)).toList = Go.Proofs.Ytfgebdioffeliaa.ints (List.replicate n 0) := by
    have := fillI_start (List.replicate n 0)
    rw [List.length_replicate] at this
    rw [Nat.mul_one]
    show (madeCells #[.int .i64 0] n).toList = _
    rw [this]
    simp [fillI]
  rw [e] at hown
  refine St.of_ints (F := [w.heap.size]) ⟨by rw [List.length_replicate]; exact hown, fun x hx => by rw [(List.mem_replicate.1 hx).2]; decide, rfl⟩ ((Below.refl _ _).grown hg (Nat.le_refl _) (by simp))
theorem Sn.putI {w W : World} {M : Nat → Option HRes} (h : Sn w W M) (i : Nat) {g n c : Nat} {xs : List Int} (hi : M i = some (rInts (.slice (some ⟨g, 0, none⟩) n c) xs)) (hn : xs.length = n) (k : Nat) (y : Int) (hy : (Lit.int .i64 y).wf = true) :
    Sn w (W.setCell ⟨g, k, none⟩ (.int .i64 y)) (fun j => if j = i then some (rInts (.slice (some ⟨g, 0, none⟩) n c) (xs.set k y)) else M j) := by
  subst hn
  refine h.mod i hi fun F h1 _ => ⟨F, ⟨?_, fun x hx => (List.mem_or_eq_of_mem_set hx).elim (h1.wf x) (fun e => e ▸ hy), h1.foot⟩, fun b hb => .inl hb, (Only.refl F W).set (by rw [h1.foot]; simp [Value.ownBlock]) _⟩
  have := (h1.row.stored k (.int .i64 y)).1
  rw [ints_set] at this
  rw [List.length_set]
  exact this
def GivesG (w : World) (e : Ending) (w' : World) : Prop := ∃ gb n c xs, e = .returned (.agg #[.slice (some ⟨gb, 0, none⟩) n c]) ∧ xs.length = n ∧ 1 ≤ n ∧ n ≤ 9 ∧ St w w' [rInts (.slice (some ⟨gb, 0, none⟩) n c) xs]
theorem St.rowAt {w W : World} {L : List HRes} (h : St w W L) (i : Nat) {A : Option Addr} {n c : Nat} {xs : List Int} (hi : L[i]? = some (rInts (.slice A n c) xs)) (hn : 0 < n) : ∃ gb, A = some ⟨gb, 0, none⟩ := by
  obtain ⟨F, h1, -⟩ := h.get i hi
  rcases h1.row.2 with ⟨e, -⟩ | ⟨g, cap, cur, e, -⟩
  · simp only [Value.slice.injEq] at e; omega
  · simp only [Value.slice.injEq] at e; exact ⟨g, e.1⟩
set_option maxRecDepth 100000 in
set_option maxHeartbeats 1000000 in
theorem ringOf_gives (n : Nat) (h3 : 3 ≤ n) (h9 : n ≤ 9) (w : World) : Calls Try.prog 47 #[.int .i64 (n : Int)] w (GivesG w) := by
  have S0 := ((St.refl w).alloc #[.slice none 0 0] 25).alloc #[.slice none 0 0] 25
  have HS0 : Hid (St w ((w.alloc (.cells #[.slice none 0 0] 25)).alloc (.cells #[.slice none 0 0] 25)) [rBlk w.heap.size 25 #[.slice none 0 0], rBlk (w.heap.size + 1) 25 #[.slice none 0 0], rInts (.slice none 0 0) []]) := Lib.hid (by
    have := S0.call (rInts_nil _ _ (Below.refl _ _))
    simpa using this)
  clear S0
  go_enter Try.func47, Try.ntmps47
  go_wp2_with fail
  refine (l1In_yes (n : Int) 3 9 _ (by omega) (by omega)).mono ?_
  rintro e w1 ⟨rfl, rfl⟩
  go_wp2
  go_loopw [4] (fun i wr => ∃ (k : Nat) (v : Value) (xs : List Int), k ≤ n ∧ i = .int .i64 k ∧ xs.length = k ∧ St w wr [rBlk w.heap.size 25 #[.slice none 0 0], rBlk (w.heap.size + 1) 25 #[v], rInts v xs]) (fun i _ => n - (intOf i).toNat)
  case atStart => exact ⟨0, _, [], by omega, rfl, rfl, HS0.out⟩
  case round =>
    clear HS0
    obtain ⟨k, v, xs, hk, rfl, hxl, S⟩ := hrel
    have HS := Lib.hid S
    have q1 : ∀ j, wr.cell? ⟨w.heap.size + 1, j, none⟩ = _ := S.cells 1 rfl
    have f1 := S.free 1 rfl
    obtain ⟨A, c, hv, hrd⟩ := S.rdI 2 rfl
    have hcap := hrd.cap
    have hcm := hrd.capMax
    unfold maxLen at hcm
    clear hrd S
    rw [hxl] at hv hcap
    have HXL := Bx.mk hxl
    clear hxl
    subst hv
    by_cases hlt : k < n
    · obtain ⟨p1, hp1⟩ : ∃ p : Nat, ((k : Int) + 1).tmod (n : Int) = (p : Int) := ⟨(k + 1) % n, by rw [show ((k : Int) + 1) = ((k + 1 : Nat) : Int) by omega]; exact (Int.ofNat_tmod _ _).symm⟩
      obtain ⟨p2, hp2⟩ : ∃ p : Nat, ((k : Int) + (n : Int) - 1).tmod (n : Int) = (p : Int) := ⟨(k + n - 1) % n, by rw [show ((k : Int) + (n : Int) - 1) = ((k + n - 1 : Nat) : Int) by omega]; exact (Int.ofNat_tmod _ _).symm⟩
      have hl1 : p1 < 9 := by have := Int.tmod_lt_of_pos ((k : Int) + 1) (show (0 : Int) < n by omega); omega
      have hl2 : p2 < 9 := by have := Int.tmod_lt_of_pos ((k : Int) + (n : Int) - 1) (show (0 : Int) < n by omega); omega
      obtain ⟨y, hy⟩ : ∃ y, IntKind.i64.wrap (IntKind.i64.wrap (2 ^ p1) + IntKind.i64.wrap (2 ^ p2)) = y := ⟨_, rfl⟩
      have HP1 := Bx.mk hp1
      have HNZ : Bx (¬ n = 0) := Bx.mk (by omega)
      have HW3 : Bx (IntKind.i64.wrap ((k : Int) + 1) = (k : Int) + 1) := Bx.mk (by rw [IntKind.wrap_i64] <;> omega)
      have HW9 : Bx (IntKind.i64.wrap ((k : Int) + (n : Int)) = (k : Int) + (n : Int)) := Bx.mk (by rw [IntKind.wrap_i64] <;> omega)
      have HW10 : Bx (IntKind.i64.wrap ((k : Int) + (n : Int) - 1) = (k : Int) + (n : Int) - 1) := Bx.mk (by rw [IntKind.wrap_i64] <;> omega)
      have HP2 := Bx.mk hp2
      have HY := Bx.mk hy
      have HYW : Bx ((Lit.int .i64 y).wf = true) := Bx.mk (by rw [← hy]; exact wf_wrap _ _)
      have hn0 : ¬ (n : Int) = 0 := by omega
      have hki : (k : Int) < (n : Int) := by omega
      clear hp1 hp2 hy q1 f1
      go_upto_region 7 with (fail)
      refine wp_reg (σ := Nat × Option Addr × Nat) (by kernel_rfl) (by kernel_rfl) (by kernel_rfl)
        (fun s i => match i with
          | 0 => .pointer (some ⟨(w.heap.size + 1), 0, none⟩)
          | 1 => .slice A k c
          | 2 => .int .i64 (k : Int)
          | 3 => .int .i64 ((k : Int) + 1)
          | 4 => .int .i64 (n : Int)
          | 5 => .int .i64 (p1 : Nat)
          | 6 => .int .i64 (IntKind.i64.wrap (2 ^ p1))
          | 7 => .int .i64 (k : Int)
          | 8 => .int .i64 (n : Int)
          | 9 => .int .i64 ((k : Int) + (n : Int))
          | 10 => .int .i64 ((k : Int) + (n : Int) - 1)
          | 11 => .int .i64 (n : Int)
          | 12 => .int .i64 (p2 : Nat)
          | 13 => .int .i64 (IntKind.i64.wrap (2 ^ p2))
          | 14 => .int .i64 y
          | 15 => .slice (some ⟨s.1, 0, none⟩) 1 1
          | 16 => .slice s.2.1 (k + 1) s.2.2
          | 17 => .pointer (some ⟨(w.heap.size + 1), 0, none⟩)
          | _ => undef)
        (fun D s wy => Sn w wy fun i => match i with
          | 0 => some (rBlk w.heap.size 25 #[.slice none 0 0])
          | 1 => some (rBlk (w.heap.size + 1) 25 (if D 18 = true then #[.slice s.2.1 (k + 1) s.2.2] else #[.slice A k c]))
          | 2 => some (rInts (if D 16 = true then .slice s.2.1 (k + 1) s.2.2 else .slice A k c) (if D 16 = true then xs ++ [y] else xs))
          | 3 => if D 15 = true then some (rInts (.slice (some ⟨s.1, 0, none⟩) 1 1) [y]) else none
          | _ => none)
        (0, none, 0) ?_ ?_ ?_
      · intro D hD
        refine ((Sn.of_st HS.out).quiet ((Below.refl _ _).drew)).congr fun i => ?_
        match i with
        | 0 => rfl
        | 1 => simp only [hD 18 (by decide)]; rfl
        | 2 => simp only [hD 16 (by decide)]; rfl
        | 3 => simp only [hD 15 (by decide)]; rfl
        | q + 4 => rfl
      · refine StepAll.cons (fun D s wy hR (hDi : D 0 = false) hd hsh a' hs K hK => ?_) ?_
        · have e3 := hs.old 3 (u := .pointer (some ⟨(w.heap.size + 1), 0, none⟩)) (by kernel_rfl) rfl
          clear hs
          go_simp
          exact hK s wy (fun _ _ => rfl) hR
        refine StepAll.cons (fun D s wy hR (hDi : D 1 = false) hd hsh a' hs K hK => ?_) ?_
        · have e15 := hs.at_ 0 15 (u := .pointer (some ⟨(w.heap.size + 1), 0, none⟩)) rfl (hd ⟨0, .data⟩ (by simp) rfl) (by kernel_rfl) (by kernel_rfl) rfl
          clear hs
          have n16 : D 16 = false := hsh.no hDi 16 rfl ⟨1, .data⟩ (by simp) rfl rfl
          have n18 : D 18 = false := hsh.no n16 18 rfl ⟨16, .data⟩ (by simp) rfl rfl
          have kb : Blk wy (w.heap.size + 1) 25 #[.slice A k c] := hR.blk 1 (by simp only [n18] <;> rfl)
          have c0 : wy.cell? ⟨w.heap.size + 1, 0, none⟩ = some (.slice A k c) := kb.cell 0
          go_simp
          exact hK s wy (fun _ _ => rfl) hR
        refine StepAll.cons (fun D s wy hR (hDi : D 2 = false) hd hsh a' hs K hK => ?_) ?_
        · have e4 := hs.old 4 (u := .int .i64 (k : Int)) (by kernel_rfl) rfl
          clear hs
          go_simp
          exact hK s wy (fun _ _ => rfl) hR
        refine StepAll.cons (fun D s wy hR (hDi : D 3 = false) hd hsh a' hs K hK => ?_) ?_
        · have e17 := hs.at_ 2 17 (u := .int .i64 (k : Int)) rfl (hd ⟨2, .data⟩ (by simp) rfl) (by kernel_rfl) (by kernel_rfl) rfl
          clear hs
          have hw := HW3.out
          go_simp
          exact hK s wy (fun _ _ => rfl) hR
        refine StepAll.cons (fun D s wy hR (hDi : D 4 = false) hd hsh a' hs K hK => ?_) ?_
        · have e0 := hs.old 0 (u := .int .i64 (n : Int)) (by kernel_rfl) rfl
          clear hs
          go_simp
          exact hK s wy (fun _ _ => rfl) hR
        refine StepAll.cons (fun D s wy hR (hDi : D 5 = false) hd hsh a' hs K hK => ?_) ?_
        · have e18 := hs.at_ 3 18 (u := .int .i64 ((k : Int) + 1)) rfl (hd ⟨3, .data⟩ (by simp) rfl) (by kernel_rfl) (by kernel_rfl) rfl
          have e19 := hs.at_ 4 19 (u := .int .i64 (n : Int)) rfl (hd ⟨4, .data⟩ (by simp) rfl) (by kernel_rfl) (by kernel_rfl) rfl
          clear hs
          have hp := HP1.out
          have hz := HNZ.out
          go_simp
          exact hK s wy (fun _ _ => rfl) hR
        refine StepAll.cons (fun D s wy hR (hDi : D 6 = false) hd hsh a' hs K hK => ?_) ?_
        · have e20 := hs.at_ 5 20 (u := .int .i64 (p1 : Nat)) rfl (hd ⟨5, .data⟩ (by simp) rfl) (by kernel_rfl) (by kernel_rfl) rfl
          clear hs
          go_simp
          exact hK s wy (fun _ _ => rfl) hR
        refine StepAll.cons (fun D s wy hR (hDi : D 7 = false) hd hsh a' hs K hK => ?_) ?_
        · have e4 := hs.old 4 (u := .int .i64 (k : Int)) (by kernel_rfl) rfl
          clear hs
          go_simp
          exact hK s wy (fun _ _ => rfl) hR
        refine StepAll.cons (fun D s wy hR (hDi : D 8 = false) hd hsh a' hs K hK => ?_) ?_
        · have e0 := hs.old 0 (u := .int .i64 (n : Int)) (by kernel_rfl) rfl
          clear hs
          go_simp
          exact hK s wy (fun _ _ => rfl) hR
        refine StepAll.cons (fun D s wy hR (hDi : D 9 = false) hd hsh a' hs K hK => ?_) ?_
        · have e22 := hs.at_ 7 22 (u := .int .i64 (k : Int)) rfl (hd ⟨7, .data⟩ (by simp) rfl) (by kernel_rfl) (by kernel_rfl) rfl
          have e23 := hs.at_ 8 23 (u := .int .i64 (n : Int)) rfl (hd ⟨8, .data⟩ (by simp) rfl) (by kernel_rfl) (by kernel_rfl) rfl
          clear hs
          have hw := HW9.out
          go_simp
          exact hK s wy (fun _ _ => rfl) hR
        refine StepAll.cons (fun D s wy hR (hDi : D 10 = false) hd hsh a' hs K hK => ?_) ?_
        · have e24 := hs.at_ 9 24 (u := .int .i64 ((k : Int) + (n : Int))) rfl (hd ⟨9, .data⟩ (by simp) rfl) (by kernel_rfl) (by kernel_rfl) rfl
          clear hs
          have hw := HW10.out
          go_simp
          exact hK s wy (fun _ _ => rfl) hR
        refine StepAll.cons (fun D s wy hR (hDi : D 11 = false) hd hsh a' hs K hK => ?_) ?_
        · have e0 := hs.old 0 (u := .int .i64 (n : Int)) (by kernel_rfl) rfl
          clear hs
          go_simp
          exact hK s wy (fun _ _ => rfl) hR
        refine StepAll.cons (fun D s wy hR (hDi : D 12 = false) hd hsh a' hs K hK => ?_) ?_
        · have e25 := hs.at_ 10 25 (u := .int .i64 ((k : Int) + (n : Int) - 1)) rfl (hd ⟨10, .data⟩ (by simp) rfl) (by kernel_rfl) (by kernel_rfl) rfl
          have e26 := hs.at_ 11 26 (u := .int .i64 (n : Int)) rfl (hd ⟨11, .data⟩ (by simp) rfl) (by kernel_rfl) (by kernel_rfl) rfl
          clear hs
          have hp := HP2.out
          have hz := HNZ.out
          go_simp
          exact hK s wy (fun _ _ => rfl) hR
        refine StepAll.cons (fun D s wy hR (hDi : D 13 = false) hd hsh a' hs K hK => ?_) ?_
        · have e27 := hs.at_ 12 27 (u := .int .i64 (p2 : Nat)) rfl (hd ⟨12, .data⟩ (by simp) rfl) (by kernel_rfl) (by kernel_rfl) rfl
          clear hs
          go_simp
          exact hK s wy (fun _ _ => rfl) hR
        refine StepAll.cons (fun D s wy hR (hDi : D 14 = false) hd hsh a' hs K hK => ?_) ?_
        · have e21 := hs.at_ 6 21 (u := .int .i64 (IntKind.i64.wrap (2 ^ p1))) rfl (hd ⟨6, .data⟩ (by simp) rfl) (by kernel_rfl) (by kernel_rfl) rfl
          have e28 := hs.at_ 13 28 (u := .int .i64 (IntKind.i64.wrap (2 ^ p2))) rfl (hd ⟨13, .data⟩ (by simp) rfl) (by kernel_rfl) (by kernel_rfl) rfl
          clear hs
          have hy := HY.out
          go_simp
          exact hK s wy (fun _ _ => rfl) hR
        refine StepAll.cons (fun D s wy hR (hDi : D 15 = false) hd hsh a' hs K hK => ?_) ?_
        · have e29 := hs.at_ 14 29 (u := .int .i64 y) rfl (hd ⟨14, .data⟩ (by simp) rfl) (by kernel_rfl) (by kernel_rfl) rfl
          have g29 := getQ e29
          clear hs
          have n16 : D 16 = false := hsh.no hDi 16 rfl ⟨15, .data⟩ (by simp) rfl rfl
          have n18 : D 18 = false := hsh.no n16 18 rfl ⟨16, .data⟩ (by simp) rfl rfl
          go_simp
          refine hK (wy.heap.size, s.2) _
            (fun j hj => by
              match j, hj with
              | 0, hj => rfl
              | 1, hj => rfl
              | 2, hj => rfl
              | 3, hj => rfl
              | 4, hj => rfl
              | 5, hj => rfl
              | 6, hj => rfl
              | 7, hj => rfl
              | 8, hj => rfl
              | 9, hj => rfl
              | 10, hj => rfl
              | 11, hj => rfl
              | 12, hj => rfl
              | 13, hj => rfl
              | 14, hj => rfl
              | 15, hj => rw [hDi] at hj; cases hj
              | 16, hj => rw [n16] at hj; cases hj
              | 17, hj => rfl
              | 18, hj => rw [n18] at hj; cases hj
              | _ + 19, hj => rfl)
            ((hR.add 3 (if_neg (by rw [hDi]; simp)) (St.lit wy [y] 1 rfl (by simp) (fun x hx => by rw [List.mem_singleton.1 hx]; exact HYW.out))).congr
              (fun i => by
                match i with
                | 0 => rfl
                | 1 => rfl
                | 2 => rfl
                | 3 => rfl
                | q + 4 => exact (if_neg (show ¬ (q + 4 = 3) by omega)).symm))
        refine StepAll.cons (fun D s wy hR (hDi : D 16 = false) hd hsh a' hs K hK => ?_) ?_
        · have e16 := hs.at_ 1 16 (u := .slice A k c) rfl (hd ⟨1, .data⟩ (by simp) rfl) (by kernel_rfl) (by kernel_rfl) rfl
          have e30 := hs.at_ 15 30 (u := .slice (some ⟨s.1, 0, none⟩) 1 1) rfl (hd ⟨15, .data⟩ (by simp) rfl) (by kernel_rfl) (by kernel_rfl) rfl
          have g16 := getQ e16
          have g30 := getQ e30
          clear hs
          have n18 : D 18 = false := hsh.no hDi 18 rfl ⟨16, .data⟩ (by simp) rfl rfl
          have d15 : D 15 = true := hd ⟨15, .data⟩ (by simp) rfl
          have ho := hR.ownI 2 (v := .slice A k c) (xs := xs) (by simp only [hDi]; rfl)
          rw [HXL.out] at ho
          have hr := (hR.rdI' 3 (A := some ⟨s.1, 0, none⟩) (n := 1) (c := 1) (xs := [y]) (if_pos d15)).row
          refine wp_app1z elInt (.tmp 16) (.tmp 30) rfl 0 _ k _ e16 ho _ _ 1 1 _ e30 hr (ints_cell _) (by omega) (by omega) (by omega) ?_
          intro v' w' hown hg hat
          obtain ⟨A4, c4, hv⟩ := own_form hown
          subst hv
          refine hK (s.1, A4, c4) w'
            (fun j hj => by
              match j, hj with
              | 0, hj => rfl
              | 1, hj => rfl
              | 2, hj => rfl
              | 3, hj => rfl
              | 4, hj => rfl
              | 5, hj => rfl
              | 6, hj => rfl
              | 7, hj => rfl
              | 8, hj => rfl
              | 9, hj => rfl
              | 10, hj => rfl
              | 11, hj => rfl
              | 12, hj => rfl
              | 13, hj => rfl
              | 14, hj => rfl
              | 15, hj => rfl
              | 16, hj => rw [hDi] at hj; cases hj
              | 17, hj => rfl
              | 18, hj => rw [n18] at hj; cases hj
              | _ + 19, hj => rfl)
            ((hR.appTo 2 (v := .slice A k c) (xs := xs) (ys := [y]) (by simp only [hDi]; rfl) (by rw [HXL.out]; rfl) hown (fun x hx => by rw [List.mem_singleton.1 hx]; exact HYW.out) hg hat).congr
              (fun i => by
                match i with
                | 0 => rfl
                | 1 => (show some (rBlk _ _ (if D 18 = true then _ else _)) = some (rBlk _ _ (if D 18 = true then _ else _)); rw [n18] <;> rfl)
                | 2 => rfl
                | 3 => rfl
                | q + 4 => exact (if_neg (show ¬ (q + 4 = 2) by omega)).symm))
        refine StepAll.cons (fun D s wy hR (hDi : D 17 = false) hd hsh a' hs K hK => ?_) ?_
        · have e3 := hs.old 3 (u := .pointer (some ⟨(w.heap.size + 1), 0, none⟩)) (by kernel_rfl) rfl
          clear hs
          go_simp
          exact hK s wy (fun _ _ => rfl) hR
        refine StepAll.cons (fun D s wy hR (hDi : D 18 = false) hd hsh a' hs K hK => ?_) ?_
        · have e32 := hs.at_ 17 32 (u := .pointer (some ⟨(w.heap.size + 1), 0, none⟩)) rfl (hd ⟨17, .data⟩ (by simp) rfl) (by kernel_rfl) (by kernel_rfl) rfl
          have e31 := hs.at_ 16 31 (u := .slice s.2.1 (k + 1) s.2.2) rfl (hd ⟨16, .data⟩ (by simp) rfl) (by kernel_rfl) (by kernel_rfl) rfl
          clear hs
          have d16 : D 16 = true := hd ⟨16, .data⟩ (by simp) rfl
          have kb : Blk wy (w.heap.size + 1) 25 #[.slice A k c] := hR.blk 1 (by simp only [hDi] <;> rfl)
          have f0 := kb.frozen 0
          have c0 : wy.cell? ⟨w.heap.size + 1, 0, none⟩ = some (.slice A k c) := kb.cell 0
          go_simp
          exact hK s _ (fun _ _ => rfl) ((hR.set 1 (cs := #[.slice A k c]) (by simp only [hDi]; rfl) 0 (.slice s.2.1 (k + 1) s.2.2)).congr
              (fun i => by
                match i with
                | 0 => rfl
                | 1 => rfl
                | 2 => rfl
                | 3 => rfl
                | q + 4 => exact (if_neg (show ¬ (q + 4 = 1) by omega)).symm))
        exact StepAll.nil
      · intro D s wy hR hD
        simp only [putA, Act.put, List.setIfInBounds_toArray, List.set_cons_zero, List.set_cons_succ]
        have HS2 : Hid (St w wy [rBlk w.heap.size 25 #[.slice none 0 0], rBlk (w.heap.size + 1) 25 #[.slice s.2.1 (k + 1) s.2.2], rInts (.slice s.2.1 (k + 1) s.2.2) (xs ++ [y])]) := Lib.hid (hR.to_st [0, 1, 2] (by decide) (by simp only [List.map, hD 18 (by decide), hD 16 (by decide)] <;> rfl))
        clear hR hD HS
        go_wp2
        go_roundw
        case rel => exact ⟨k + 1, _, xs ++ [y], by omega, by go_num, by simp [HXL.out], HS2.out⟩
        case measure => simp [intOf]; omega
    · have q0 : ∀ j, wr.cell? ⟨w.heap.size, j, none⟩ = _ := HS.out.cells 0 rfl
      have f0 := HS.out.free 0 rfl
      have hki : ¬ (k : Int) < (n : Int) := by omega
      go_wp2
      refine bodyPost_ret (v := .agg #[.slice A k c]) (by simp [results, Try.results47, go_sem, q0]) rfl ?_
      obtain ⟨gb, rfl⟩ := HS.out.rowAt 2 rfl (by omega)
      exact ⟨gb, k, c, xs, rfl, HXL.out, by omega, by omega, ((HS.out.set 0 rfl 0 (.slice (some ⟨gb, 0, none⟩) k c)).pick [2] (by decide) rfl rfl)⟩
set_option maxRecDepth 100000 in
set_option maxHeartbeats 1000000 in
theorem gridOf_gives (wd tl N : Nat) (hN : wd * tl = N) (h1 : 1 ≤ wd) (h2 : wd ≤ 9) (h3 : 1 ≤ tl) (h4 : tl ≤ 9) (h5 : N ≤ 9) (w : World) : Calls Try.prog 48 #[.int .i64 (wd : Int), .int .i64 (tl : Int)] w (GivesG w) := by
  obtain ⟨i0, hi, hz0, hz1, hz2⟩ := elInt.hi
  have hNi : (wd : Int) * (tl : Int) = (N : Int) := by rw [← hN]; exact (Int.natCast_mul _ _).symm
  have hN1 : 1 ≤ N := by rw [← hN]; exact Nat.mul_pos h1 h3
  have hNw : IntKind.i64.wrap (N : Int) = (N : Int) := by rw [IntKind.wrap_i64] <;> omega
  have HS0 := Lib.hid ((St.refl w).alloc #[.slice none 0 0] 25)
  clear hN
  go_enter Try.func48, Try.ntmps48
  go_wp2_with fail
  refine (l1In_yes (wd : Int) 1 9 _ (by omega) (by omega)).mono ?_
  rintro e w1 ⟨rfl, rfl⟩
  go_wp2_with fail
  refine (l1In_yes (tl : Int) 1 9 _ (by omega) (by omega)).mono ?_
  rintro e w2 ⟨rfl, rfl⟩
  have hN9 : ¬ (9 : Int) < (N : Int) := by omega
  obtain ⟨gs, hgs⟩ : ∃ g, (w.alloc (.cells #[.slice none 0 0] 25)).heap.size = g := ⟨_, rfl⟩
  go_wp2_with (at_make; refine wpList_make_full _ rfl _ _ 23 rfl (w.alloc (.cells #[.slice none 0 0] 25)).heap.size 3 i0 _ 1 Try.underlying23 hi hz0 hz1 _ _ _ _ N rfl rfl rfl rfl (by rw [hz2]; omega) (by unfold maxLen; omega) (Nat.le_refl _) ?_; intro w3 hown hgr; have HS3 := Lib.hid (HS0.out.call (St.ofMakeN hown hgr)); clear hown hgr; rw [hgs] at HS3; try rw [hgs])
  obtain ⟨g5, hg5⟩ : ∃ g, w3.heap.size = g := ⟨_, rfl⟩
  have HS4 : Hid (St w (w3.alloc (.cells #[.slice (some ⟨gs, 0, none⟩) N N] 25)) [rBlk w.heap.size 25 #[.slice none 0 0], rBlk g5 25 #[.slice (some ⟨gs, 0, none⟩) N N], rInts (.slice (some ⟨gs, 0, none⟩) N N) (List.replicate N 0)]) := Lib.hid (by
    rw [← hg5]
    exact (HS3.out.alloc #[.slice (some ⟨gs, 0, none⟩) N N] 25).pick [0, 2, 1] (by decide) rfl rfl)
  clear HS3 HS0
  try rw [hg5]
  clear hg5 hgs hz0 hz1 hz2 hi
  go_loopw [6] (fun i wr => ∃ (k : Nat) (xs : List Int), k ≤ N ∧ i = .int .i64 k ∧ xs.length = N ∧ St w wr [rBlk w.heap.size 25 #[.slice none 0 0], rBlk g5 25 #[.slice (some ⟨gs, 0, none⟩) N N], rInts (.slice (some ⟨gs, 0, none⟩) N N) xs]) (fun i _ => N - (intOf i).toNat)
  case atStart => exact ⟨0, _, by omega, rfl, by simp, HS4.out⟩
  case round =>
    clear HS4
    obtain ⟨k, xs, hk, rfl, hxl, S⟩ := hrel
    have HS := Lib.hid S
    clear S
    have HXL := Bx.mk hxl
    clear hxl
    have hwd0 : ¬ wd = 0 := by omega
    have hmod : ((k : Int).tmod (wd : Int)) = ((k % wd : Nat) : Int) := (Int.ofNat_tmod _ _).symm
    by_cases hlt : k < N
    · have hki : (k : Int) < (N : Int) := by omega
      obtain ⟨r, hr⟩ : ∃ r, k % wd = r := ⟨_, rfl⟩
      rw [hr] at hmod
      have hr1 : 0 < r → 0 < k := fun h => by rcases Nat.eq_zero_or_pos k with e | e; subst e; rw [Nat.zero_mod] at hr; omega; exact e
      clear hr
      by_cases hA : 0 < r
      · have hAi : (0 : Int) < (r : Int) := by omega
        obtain ⟨kp, hkp⟩ : ∃ kp : Nat, k = kp + 1 := ⟨k - 1, by have := hr1 hA; omega⟩
        have HKP : Bx ((k : Int) - 1 = (kp : Int)) := Bx.mk (by omega)
        have HWP : Bx (IntKind.i64.wrap (kp : Int) = (kp : Int)) := Bx.mk (by rw [IntKind.wrap_i64] <;> omega)
        have hkp9 : kp < 9 := by omega
        have hkpN : kp < N := by omega
        have hkpi : (kp : Int) < (N : Int) := by omega
        obtain ⟨x, hx⟩ : ∃ x, xs[k]? = some x := ⟨_, List.getElem?_eq_getElem (by rw [HXL.out]; exact hlt)⟩
        obtain ⟨y, hy⟩ : ∃ y, IntKind.i64.wrap (x + IntKind.i64.wrap (2 ^ kp)) = y := ⟨_, rfl⟩
        have HX := Bx.mk hx
        have HY := Bx.mk hy
        have HYW : Bx ((Lit.int .i64 y).wf = true) := Bx.mk (by rw [← hy]; exact wf_wrap _ _)
        clear hx hy hkp
        go_upto_region 8 with (fail)
        refine wp_reg (σ := Unit) (by kernel_rfl) (by kernel_rfl) (by kernel_rfl)
          (fun s i => match i with
            | 0 => .pointer (some ⟨g5, 0, none⟩)
            | 1 => .slice (some ⟨gs, 0, none⟩) N N
            | 2 => .int .i64 (k : Int)
            | 3 => .pointer (some ⟨g5, 0, none⟩)
            | 4 => .slice (some ⟨gs, 0, none⟩) N N
            | 5 => .int .i64 (k : Int)
            | 6 => .pointer (some ⟨gs, k, none⟩)
            | 7 => .int .i64 x
            | 8 => .int .i64 (k : Int)
            | 9 => .int .i64 (kp : Nat)
            | 10 => .int .i64 (IntKind.i64.wrap (2 ^ kp))
            | 11 => .int .i64 y
            | 12 => .pointer (some ⟨gs, k, none⟩)
            | _ => undef)
          (fun D s wa => Sn w wa fun i => match i with
            | 0 => some (rBlk w.heap.size 25 #[.slice none 0 0])
            | 1 => some (rBlk g5 25 #[.slice (some ⟨gs, 0, none⟩) N N])
            | 2 => some (rInts (.slice (some ⟨gs, 0, none⟩) N N) (if D 13 = true then (xs).set (k) y else xs))
            | _ => none)
          () ?_ ?_ ?_
        · intro D hD
          refine ((Sn.of_st HS.out).quiet ((Below.refl _ _).drew)).congr fun i => ?_
          match i with
          | 0 => rfl
          | 1 => rfl
          | 2 => simp only [hD 13 (by decide)]; rfl
          | q + 3 => rfl
        · refine StepAll.cons (fun D s wa hR (hDi : D 0 = false) hd hsh a' hs K hK => ?_) ?_
          · have e5 := hs.old 5 (u := .pointer (some ⟨g5, 0, none⟩)) (by kernel_rfl) rfl
            clear hs
            go_simp
            exact hK s wa (fun _ _ => rfl) hR
          refine StepAll.cons (fun D s wa hR (hDi : D 1 = false) hd hsh a' hs K hK => ?_) ?_
          · have e38 := hs.at_ 0 38 (u := .pointer (some ⟨g5, 0, none⟩)) rfl (hd ⟨0, .data⟩ (by simp) rfl) (by kernel_rfl) (by kernel_rfl) rfl
            clear hs
            have kb : Blk wa (g5) 25 #[.slice (some ⟨gs, 0, none⟩) N N] := hR.blk 1 rfl
            have c0 : wa.cell? ⟨g5, 0, none⟩ = some (.slice (some ⟨gs, 0, none⟩) N N) := kb.cell 0
            go_simp
            exact hK s wa (fun _ _ => rfl) hR
          refine StepAll.cons (fun D s wa hR (hDi : D 2 = false) hd hsh a' hs K hK => ?_) ?_
          · have e6 := hs.old 6 (u := .int .i64 (k : Int)) (by kernel_rfl) rfl
            clear hs
            go_simp
            exact hK s wa (fun _ _ => rfl) hR
          refine StepAll.cons (fun D s wa hR (hDi : D 3 = false) hd hsh a' hs K hK => ?_) ?_
          · have e5 := hs.old 5 (u := .pointer (some ⟨g5, 0, none⟩)) (by kernel_rfl) rfl
            clear hs
            go_simp
            exact hK s wa (fun _ _ => rfl) hR
          refine StepAll.cons (fun D s wa hR (hDi : D 4 = false) hd hsh a' hs K hK => ?_) ?_
          · have e41 := hs.at_ 3 41 (u := .pointer (some ⟨g5, 0, none⟩)) rfl (hd ⟨3, .data⟩ (by simp) rfl) (by kernel_rfl) (by kernel_rfl) rfl
            clear hs
            have kb : Blk wa (g5) 25 #[.slice (some ⟨gs, 0, none⟩) N N] := hR.blk 1 rfl
            have c0 : wa.cell? ⟨g5, 0, none⟩ = some (.slice (some ⟨gs, 0, none⟩) N N) := kb.cell 0
            go_simp
            exact hK s wa (fun _ _ => rfl) hR
          refine StepAll.cons (fun D s wa hR (hDi : D 5 = false) hd hsh a' hs K hK => ?_) ?_
          · have e6 := hs.old 6 (u := .int .i64 (k : Int)) (by kernel_rfl) rfl
            clear hs
            go_simp
            exact hK s wa (fun _ _ => rfl) hR
          refine StepAll.cons (fun D s wa hR (hDi : D 6 = false) hd hsh a' hs K hK => ?_) ?_
          · have e42 := hs.at_ 4 42 (u := .slice (some ⟨gs, 0, none⟩) N N) rfl (hd ⟨4, .data⟩ (by simp) rfl) (by kernel_rfl) (by kernel_rfl) rfl
            have e43 := hs.at_ 5 43 (u := .int .i64 (k : Int)) rfl (hd ⟨5, .data⟩ (by simp) rfl) (by kernel_rfl) (by kernel_rfl) rfl
            clear hs
            go_simp
            exact hK s wa (fun _ _ => rfl) hR
          refine StepAll.cons (fun D s wa hR (hDi : D 7 = false) hd hsh a' hs K hK => ?_) ?_
          · have e44 := hs.at_ 6 44 (u := .pointer (some ⟨gs, k, none⟩)) rfl (hd ⟨6, .data⟩ (by simp) rfl) (by kernel_rfl) (by kernel_rfl) rfl
            clear hs
            have n11 : D 11 = false := hsh.no hDi 11 rfl ⟨7, .data⟩ (by simp) rfl rfl
            have n13 : D 13 = false := hsh.no n11 13 rfl ⟨11, .data⟩ (by simp) rfl rfl
            have c0 := (hR.cellI 2 (xs := xs) (by simp only [n13] <;> rfl) HXL.out (k) x HX.out).1
            go_simp
            exact hK s wa (fun _ _ => rfl) hR
          refine StepAll.cons (fun D s wa hR (hDi : D 8 = false) hd hsh a' hs K hK => ?_) ?_
          · have e6 := hs.old 6 (u := .int .i64 (k : Int)) (by kernel_rfl) rfl
            clear hs
            go_simp
            exact hK s wa (fun _ _ => rfl) hR
          refine StepAll.cons (fun D s wa hR (hDi : D 9 = false) hd hsh a' hs K hK => ?_) ?_
          · have e46 := hs.at_ 8 46 (u := .int .i64 (k : Int)) rfl (hd ⟨8, .data⟩ (by simp) rfl) (by kernel_rfl) (by kernel_rfl) rfl
            clear hs
            have h1 := HKP.out
            have h2 := HWP.out
            go_simp
            exact hK s wa (fun _ _ => rfl) hR
          refine StepAll.cons (fun D s wa hR (hDi : D 10 = false) hd hsh a' hs K hK => ?_) ?_
          · have e47 := hs.at_ 9 47 (u := .int .i64 (kp : Nat)) rfl (hd ⟨9, .data⟩ (by simp) rfl) (by kernel_rfl) (by kernel_rfl) rfl
            clear hs
            go_simp
            exact hK s wa (fun _ _ => rfl) hR
          refine StepAll.cons (fun D s wa hR (hDi : D 11 = false) hd hsh a' hs K hK => ?_) ?_
          · have e45 := hs.at_ 7 45 (u := .int .i64 x) rfl (hd ⟨7, .data⟩ (by simp) rfl) (by kernel_rfl) (by kernel_rfl) rfl
            have e48 := hs.at_ 10 48 (u := .int .i64 (IntKind.i64.wrap (2 ^ kp))) rfl (hd ⟨10, .data⟩ (by simp) rfl) (by kernel_rfl) (by kernel_rfl) rfl
            clear hs
            have hy := HY.out
            go_simp
            exact hK s wa (fun _ _ => rfl) hR
          refine StepAll.cons (fun D s wa hR (hDi : D 12 = false) hd hsh a' hs K hK => ?_) ?_
          · have e39 := hs.at_ 1 39 (u := .slice (some ⟨gs, 0, none⟩) N N) rfl (hd ⟨1, .data⟩ (by simp) rfl) (by kernel_rfl) (by kernel_rfl) rfl
            have e40 := hs.at_ 2 40 (u := .int .i64 (k : Int)) rfl (hd ⟨2, .data⟩ (by simp) rfl) (by kernel_rfl) (by kernel_rfl) rfl
            clear hs
            go_simp
            exact hK s wa (fun _ _ => rfl) hR
          refine StepAll.cons (fun D s wa hR (hDi : D 13 = false) hd hsh a' hs K hK => ?_) ?_
          · have e50 := hs.at_ 12 50 (u := .pointer (some ⟨gs, k, none⟩)) rfl (hd ⟨12, .data⟩ (by simp) rfl) (by kernel_rfl) (by kernel_rfl) rfl
            have e49 := hs.at_ 11 49 (u := .int .i64 y) rfl (hd ⟨11, .data⟩ (by simp) rfl) (by kernel_rfl) (by kernel_rfl) rfl
            clear hs
            have hc := hR.cellI 2 (xs := xs) (by simp only [hDi] <;> rfl) HXL.out (k) x HX.out
            have c0 := hc.1
            have f0 := hc.2
            go_simp
            exact hK s _ (fun _ _ => rfl) ((hR.putI 2 (xs := xs) (by simp only [hDi]; rfl) HXL.out (k) y HYW.out).congr
                (fun i => by
                  match i with
                  | 0 => rfl
                  | 1 => rfl
                  | 2 => rfl
                  | q + 3 => exact (if_neg (show ¬ (q + 3 = 2) by omega)).symm))
          exact StepAll.nil
        · intro D s wa hR hD
          simp only [putA, Act.put, List.setIfInBounds_toArray, List.set_cons_zero, List.set_cons_succ]
          have HS1 : Hid (St w wa [rBlk w.heap.size 25 #[.slice none 0 0], rBlk g5 25 #[.slice (some ⟨gs, 0, none⟩) N N], rInts (.slice (some ⟨gs, 0, none⟩) N N) ((xs).set (k) y)]) := Lib.hid (hR.to_st [0, 1, 2] (by decide) (by simp only [List.map, hD 13 (by decide)] <;> rfl))
          clear hR hD HS
          obtain ⟨xs1, hxs1⟩ : ∃ ys, xs.set k y = ys := ⟨_, rfl⟩
          have HXL1 : Bx (xs1.length = N) := Bx.mk (by rw [← hxs1, List.length_set]; exact HXL.out)
          rw [hxs1] at HS1
          clear hxs1 HX HY HYW
          obtain ⟨x, hx⟩ : ∃ x, xs1[kp]? = some x := ⟨_, List.getElem?_eq_getElem (by rw [HXL1.out]; exact hkpN)⟩
          obtain ⟨y, hy⟩ : ∃ y, IntKind.i64.wrap (x + IntKind.i64.wrap (2 ^ k)) = y := ⟨_, rfl⟩
          have HX := Bx.mk hx
          have HY := Bx.mk hy
          have HYW : Bx ((Lit.int .i64 y).wf = true) := Bx.mk (by rw [← hy]; exact wf_wrap _ _)
          clear hx hy
          go_upto_region 9 with (fail)
          refine wp_reg (σ := Unit) (by kernel_rfl) (by kernel_rfl) (by kernel_rfl)
            (fun s i => match i with
              | 0 => .pointer (some ⟨g5, 0, none⟩)
              | 1 => .slice (some ⟨gs, 0, none⟩) N N
              | 2 => .int .i64 (k : Int)
              | 3 => .int .i64 (kp : Nat)
              | 4 => .pointer (some ⟨g5, 0, none⟩)
              | 5 => .slice (some ⟨gs, 0, none⟩) N N
              | 6 => .int .i64 (k : Int)
              | 7 => .int .i64 (kp : Nat)
              | 8 => .pointer (some ⟨gs, kp, none⟩)
              | 9 => .int .i64 x
              | 10 => .int .i64 (k : Int)
              | 11 => .int .i64 (IntKind.i64.wrap (2 ^ k))
              | 12 => .int .i64 y
              | 13 => .pointer (some ⟨gs, kp, none⟩)
              | _ => undef)
            (fun D s wb => Sn w wb fun i => match i with
              | 0 => some (rBlk w.heap.size 25 #[.slice none 0 0])
              | 1 => some (rBlk g5 25 #[.slice (some ⟨gs, 0, none⟩) N N])
              | 2 => some (rInts (.slice (some ⟨gs, 0, none⟩) N N) (if D 14 = true then (xs1).set (kp) y else xs1))
              | _ => none)
            () ?_ ?_ ?_
          · intro D hD
            refine ((Sn.of_st HS1.out).quiet ((Below.refl _ _).drew)).congr fun i => ?_
            match i with
            | 0 => rfl
            | 1 => rfl
            | 2 => simp only [hD 14 (by decide)]; rfl
            | q + 3 => rfl
          · refine StepAll.cons (fun D s wb hR (hDi : D 0 = false) hd hsh a' hs K hK => ?_) ?_
            · have e5 := hs.old 5 (u := .pointer (some ⟨g5, 0, none⟩)) (by kernel_rfl) rfl
              clear hs
              go_simp
              exact hK s wb (fun _ _ => rfl) hR
            refine StepAll.cons (fun D s wb hR (hDi : D 1 = false) hd hsh a' hs K hK => ?_) ?_
            · have e51 := hs.at_ 0 51 (u := .pointer (some ⟨g5, 0, none⟩)) rfl (hd ⟨0, .data⟩ (by simp) rfl) (by kernel_rfl) (by kernel_rfl) rfl
              clear hs
              have kb : Blk wb (g5) 25 #[.slice (some ⟨gs, 0, none⟩) N N] := hR.blk 1 rfl
              have c0 : wb.cell? ⟨g5, 0, none⟩ = some (.slice (some ⟨gs, 0, none⟩) N N) := kb.cell 0
              go_simp
              exact hK s wb (fun _ _ => rfl) hR
            refine StepAll.cons (fun D s wb hR (hDi : D 2 = false) hd hsh a' hs K hK => ?_) ?_
            · have e6 := hs.old 6 (u := .int .i64 (k : Int)) (by kernel_rfl) rfl
              clear hs
              go_simp
              exact hK s wb (fun _ _ => rfl) hR
            refine StepAll.cons (fun D s wb hR (hDi : D 3 = false) hd hsh a' hs K hK => ?_) ?_
            · have e53 := hs.at_ 2 53 (u := .int .i64 (k : Int)) rfl (hd ⟨2, .data⟩ (by simp) rfl) (by kernel_rfl) (by kernel_rfl) rfl
              clear hs
              have h1 := HKP.out
              have h2 := HWP.out
              go_simp
              exact hK s wb (fun _ _ => rfl) hR
            refine StepAll.cons (fun D s wb hR (hDi : D 4 = false) hd hsh a' hs K hK => ?_) ?_
            · have e5 := hs.old 5 (u := .pointer (some ⟨g5, 0, none⟩)) (by kernel_rfl) rfl
              clear hs
              go_simp
              exact hK s wb (fun _ _ => rfl) hR
            refine StepAll.cons (fun D s wb hR (hDi : D 5 = false) hd hsh a' hs K hK => ?_) ?_
            · have e55 := hs.at_ 4 55 (u := .pointer (some ⟨g5, 0, none⟩)) rfl (hd ⟨4, .data⟩ (by simp) rfl) (by kernel_rfl) (by kernel_rfl) rfl
              clear hs
              have kb : Blk wb (g5) 25 #[.slice (some ⟨gs, 0, none⟩) N N] := hR.blk 1 rfl
              have c0 : wb.cell? ⟨g5, 0, none⟩ = some (.slice (some ⟨gs, 0, none⟩) N N) := kb.cell 0
              go_simp
              exact hK s wb (fun _ _ => rfl) hR
            refine StepAll.cons (fun D s wb hR (hDi : D 6 = false) hd hsh a' hs K hK => ?_) ?_
            · have e6 := hs.old 6 (u := .int .i64 (k : Int)) (by kernel_rfl) rfl
              clear hs
              go_simp
              exact hK s wb (fun _ _ => rfl) hR
            refine StepAll.cons (fun D s wb hR (hDi : D 7 = false) hd hsh a' hs K hK => ?_) ?_
            · have e57 := hs.at_ 6 57 (u := .int .i64 (k : Int)) rfl (hd ⟨6, .data⟩ (by simp) rfl) (by kernel_rfl) (by kernel_rfl) rfl
              clear hs
              have h1 := HKP.out
              have h2 := HWP.out
              go_simp
              exact hK s wb (fun _ _ => rfl) hR
            refine StepAll.cons (fun D s wb hR (hDi : D 8 = false) hd hsh a' hs K hK => ?_) ?_
            · have e56 := hs.at_ 5 56 (u := .slice (some ⟨gs, 0, none⟩) N N) rfl (hd ⟨5, .data⟩ (by simp) rfl) (by kernel_rfl) (by kernel_rfl) rfl
              have e58 := hs.at_ 7 58 (u := .int .i64 (kp : Nat)) rfl (hd ⟨7, .data⟩ (by simp) rfl) (by kernel_rfl) (by kernel_rfl) rfl
              clear hs
              go_simp
              exact hK s wb (fun _ _ => rfl) hR
            refine StepAll.cons (fun D s wb hR (hDi : D 9 = false) hd hsh a' hs K hK => ?_) ?_
            · have e59 := hs.at_ 8 59 (u := .pointer (some ⟨gs, kp, none⟩)) rfl (hd ⟨8, .data⟩ (by simp) rfl) (by kernel_rfl) (by kernel_rfl) rfl
              clear hs
              have n12 : D 12 = false := hsh.no hDi 12 rfl ⟨9, .data⟩ (by simp) rfl rfl
              have n14 : D 14 = false := hsh.no n12 14 rfl ⟨12, .data⟩ (by simp) rfl rfl
              have c0 := (hR.cellI 2 (xs := xs1) (by simp only [n14] <;> rfl) HXL1.out (kp) x HX.out).1
              go_simp
              exact hK s wb (fun _ _ => rfl) hR
            refine StepAll.cons (fun D s wb hR (hDi : D 10 = false) hd hsh a' hs K hK => ?_) ?_
            · have e6 := hs.old 6 (u := .int .i64 (k : Int)) (by kernel_rfl) rfl
              clear hs
              go_simp
              exact hK s wb (fun _ _ => rfl) hR
            refine StepAll.cons (fun D s wb hR (hDi : D 11 = false) hd hsh a' hs K hK => ?_) ?_
            · have e61 := hs.at_ 10 61 (u := .int .i64 (k : Int)) rfl (hd ⟨10, .data⟩ (by simp) rfl) (by kernel_rfl) (by kernel_rfl) rfl
              clear hs
              go_simp
              exact hK s wb (fun _ _ => rfl) hR
            refine StepAll.cons (fun D s wb hR (hDi : D 12 = false) hd hsh a' hs K hK => ?_) ?_
            · have e60 := hs.at_ 9 60 (u := .int .i64 x) rfl (hd ⟨9, .data⟩ (by simp) rfl) (by kernel_rfl) (by kernel_rfl) rfl
              have e62 := hs.at_ 11 62 (u := .int .i64 (IntKind.i64.wrap (2 ^ k))) rfl (hd ⟨11, .data⟩ (by simp) rfl) (by kernel_rfl) (by kernel_rfl) rfl
              clear hs
              have hy := HY.out
              go_simp
              exact hK s wb (fun _ _ => rfl) hR
            refine StepAll.cons (fun D s wb hR (hDi : D 13 = false) hd hsh a' hs K hK => ?_) ?_
            · have e52 := hs.at_ 1 52 (u := .slice (some ⟨gs, 0, none⟩) N N) rfl (hd ⟨1, .data⟩ (by simp) rfl) (by kernel_rfl) (by kernel_rfl) rfl
              have e54 := hs.at_ 3 54 (u := .int .i64 (kp : Nat)) rfl (hd ⟨3, .data⟩ (by simp) rfl) (by kernel_rfl) (by kernel_rfl) rfl
              clear hs
              go_simp
              exact hK s wb (fun _ _ => rfl) hR
            refine StepAll.cons (fun D s wb hR (hDi : D 14 = false) hd hsh a' hs K hK => ?_) ?_
            · have e64 := hs.at_ 13 64 (u := .pointer (some ⟨gs, kp, none⟩)) rfl (hd ⟨13, .data⟩ (by simp) rfl) (by kernel_rfl) (by kernel_rfl) rfl
              have e63 := hs.at_ 12 63 (u := .int .i64 y) rfl (hd ⟨12, .data⟩ (by simp) rfl) (by kernel_rfl) (by kernel_rfl) rfl
              clear hs
              have hc := hR.cellI 2 (xs := xs1) (by simp only [hDi] <;> rfl) HXL1.out (kp) x HX.out
              have c0 := hc.1
              have f0 := hc.2
              go_simp
              exact hK s _ (fun _ _ => rfl) ((hR.putI 2 (xs := xs1) (by simp only [hDi]; rfl) HXL1.out (kp) y HYW.out).congr
                  (fun i => by
                    match i with
                    | 0 => rfl
                    | 1 => rfl
                    | 2 => rfl
                    | q + 3 => exact (if_neg (show ¬ (q + 3 = 2) by omega)).symm))
            exact StepAll.nil
          · intro D s wb hR hD
            simp only [putA, Act.put, List.setIfInBounds_toArray, List.set_cons_zero, List.set_cons_succ]
            have HS2 : Hid (St w wb [rBlk w.heap.size 25 #[.slice none 0 0], rBlk g5 25 #[.slice (some ⟨gs, 0, none⟩) N N], rInts (.slice (some ⟨gs, 0, none⟩) N N) ((xs1).set (kp) y)]) := Lib.hid (hR.to_st [0, 1, 2] (by decide) (by simp only [List.map, hD 14 (by decide)] <;> rfl))
            clear hR hD HS1
            obtain ⟨xs2, hxs2⟩ : ∃ ys, xs1.set kp y = ys := ⟨_, rfl⟩
            have HXL2 : Bx (xs2.length = N) := Bx.mk (by rw [← hxs2, List.length_set]; exact HXL1.out)
            rw [hxs2] at HS2
            clear hxs2 HX HY HYW
            by_cases hB : wd ≤ k
            · have hBi : (wd : Int) ≤ (k : Int) := by omega
              obtain ⟨kq, hkq⟩ : ∃ kq : Nat, k = kq + wd := ⟨k - wd, by omega⟩
              have HKQ : Bx ((k : Int) - (wd : Int) = (kq : Int)) := Bx.mk (by omega)
              have HWQ : Bx (IntKind.i64.wrap (kq : Int) = (kq : Int)) := Bx.mk (by rw [IntKind.wrap_i64] <;> omega)
              have hkq9 : kq < 9 := by omega
              have hkqN : kq < N := by omega
              have hkqi : (kq : Int) < (N : Int) := by omega
              obtain ⟨x, hx⟩ : ∃ x, xs2[k]? = some x := ⟨_, List.getElem?_eq_getElem (by rw [HXL2.out]; exact hlt)⟩
              obtain ⟨y, hy⟩ : ∃ y, IntKind.i64.wrap (x + IntKind.i64.wrap (2 ^ kq)) = y := ⟨_, rfl⟩
              have HX := Bx.mk hx
              have HY := Bx.mk hy
              have HYW : Bx ((Lit.int .i64 y).wf = true) := Bx.mk (by rw [← hy]; exact wf_wrap _ _)
              clear hx hy hkq
              go_upto_region 11 with (fail)
              refine wp_reg (σ := Unit) (by kernel_rfl) (by kernel_rfl) (by kernel_rfl)
                (fun s i => match i with
                  | 0 => .pointer (some ⟨g5, 0, none⟩)
                  | 1 => .slice (some ⟨gs, 0, none⟩) N N
                  | 2 => .int .i64 (k : Int)
                  | 3 => .pointer (some ⟨g5, 0, none⟩)
                  | 4 => .slice (some ⟨gs, 0, none⟩) N N
                  | 5 => .int .i64 (k : Int)
                  | 6 => .pointer (some ⟨gs, k, none⟩)
                  | 7 => .int .i64 x
                  | 8 => .int .i64 (k : Int)
                  | 9 => .int .i64 (wd : Int)
                  | 10 => .int .i64 (kq : Nat)
                  | 11 => .int .i64 (IntKind.i64.wrap (2 ^ kq))
                  | 12 => .int .i64 y
                  | 13 => .pointer (some ⟨gs, k, none⟩)
                  | _ => undef)
                (fun D s wc => Sn w wc fun i => match i with
                  | 0 => some (rBlk w.heap.size 25 #[.slice none 0 0])
                  | 1 => some (rBlk g5 25 #[.slice (some ⟨gs, 0, none⟩) N N])
                  | 2 => some (rInts (.slice (some ⟨gs, 0, none⟩) N N) (if D 14 = true then (xs2).set (k) y else xs2))
                  | _ => none)
                () ?_ ?_ ?_
              · intro D hD
                refine ((Sn.of_st HS2.out).quiet ((Below.refl _ _).drew)).congr fun i => ?_
                match i with
                | 0 => rfl
                | 1 => rfl
                | 2 => simp only [hD 14 (by decide)]; rfl
                | q + 3 => rfl
              · refine StepAll.cons (fun D s wc hR (hDi : D 0 = false) hd hsh a' hs K hK => ?_) ?_
                · have e5 := hs.old 5 (u := .pointer (some ⟨g5, 0, none⟩)) (by kernel_rfl) rfl
                  clear hs
                  go_simp
                  exact hK s wc (fun _ _ => rfl) hR
                refine StepAll.cons (fun D s wc hR (hDi : D 1 = false) hd hsh a' hs K hK => ?_) ?_
                · have e68 := hs.at_ 0 68 (u := .pointer (some ⟨g5, 0, none⟩)) rfl (hd ⟨0, .data⟩ (by simp) rfl) (by kernel_rfl) (by kernel_rfl) rfl
                  clear hs
                  have kb : Blk wc (g5) 25 #[.slice (some ⟨gs, 0, none⟩) N N] := hR.blk 1 rfl
                  have c0 : wc.cell? ⟨g5, 0, none⟩ = some (.slice (some ⟨gs, 0, none⟩) N N) := kb.cell 0
                  go_simp
                  exact hK s wc (fun _ _ => rfl) hR
                refine StepAll.cons (fun D s wc hR (hDi : D 2 = false) hd hsh a' hs K hK => ?_) ?_
                · have e6 := hs.old 6 (u := .int .i64 (k : Int)) (by kernel_rfl) rfl
                  clear hs
                  go_simp
                  exact hK s wc (fun _ _ => rfl) hR
                refine StepAll.cons (fun D s wc hR (hDi : D 3 = false) hd hsh a' hs K hK => ?_) ?_
                · have e5 := hs.old 5 (u := .pointer (some ⟨g5, 0, none⟩)) (by kernel_rfl) rfl
                  clear hs
                  go_simp
                  exact hK s wc (fun _ _ => rfl) hR
                refine StepAll.cons (fun D s wc hR (hDi : D 4 = false) hd hsh a' hs K hK => ?_) ?_
                · have e71 := hs.at_ 3 71 (u := .pointer (some ⟨g5, 0, none⟩)) rfl (hd ⟨3, .data⟩ (by simp) rfl) (by kernel_rfl) (by kernel_rfl) rfl
                  clear hs
                  have kb : Blk wc (g5) 25 #[.slice (some ⟨gs, 0, none⟩) N N] := hR.blk 1 rfl
                  have c0 : wc.cell? ⟨g5, 0, none⟩ = some (.slice (some ⟨gs, 0, none⟩) N N) := kb.cell 0
                  go_simp
                  exact hK s wc (fun _ _ => rfl) hR
                refine StepAll.cons (fun D s wc hR (hDi : D 5 = false) hd hsh a' hs K hK => ?_) ?_
                · have e6 := hs.old 6 (u := .int .i64 (k : Int)) (by kernel_rfl) rfl
                  clear hs
                  go_simp
                  exact hK s wc (fun _ _ => rfl) hR
                refine StepAll.cons (fun D s wc hR (hDi : D 6 = false) hd hsh a' hs K hK => ?_) ?_
                · have e72 := hs.at_ 4 72 (u := .slice (some ⟨gs, 0, none⟩) N N) rfl (hd ⟨4, .data⟩ (by simp) rfl) (by kernel_rfl) (by kernel_rfl) rfl
                  have e73 := hs.at_ 5 73 (u := .int .i64 (k : Int)) rfl (hd ⟨5, .data⟩ (by simp) rfl) (by kernel_rfl) (by kernel_rfl) rfl
                  clear hs
                  go_simp
                  exact hK s wc (fun _ _ => rfl) hR
                refine StepAll.cons (fun D s wc hR (hDi : D 7 = false) hd hsh a' hs K hK => ?_) ?_
                · have e74 := hs.at_ 6 74 (u := .pointer (some ⟨gs, k, none⟩)) rfl (hd ⟨6, .data⟩ (by simp) rfl) (by kernel_rfl) (by kernel_rfl) rfl
                  clear hs
                  have n12 : D 12 = false := hsh.no hDi 12 rfl ⟨7, .data⟩ (by simp) rfl rfl
                  have n14 : D 14 = false := hsh.no n12 14 rfl ⟨12, .data⟩ (by simp) rfl rfl
                  have c0 := (hR.cellI 2 (xs := xs2) (by simp only [n14] <;> rfl) HXL2.out (k) x HX.out).1
                  go_simp
                  exact hK s wc (fun _ _ => rfl) hR
                refine StepAll.cons (fun D s wc hR (hDi : D 8 = false) hd hsh a' hs K hK => ?_) ?_
                · have e6 := hs.old 6 (u := .int .i64 (k : Int)) (by kernel_rfl) rfl
                  clear hs
                  go_simp
                  exact hK s wc (fun _ _ => rfl) hR
                refine StepAll.cons (fun D s wc hR (hDi : D 9 = false) hd hsh a' hs K hK => ?_) ?_
                · have e0 := hs.old 0 (u := .int .i64 (wd : Int)) (by kernel_rfl) rfl
                  clear hs
                  go_simp
                  exact hK s wc (fun _ _ => rfl) hR
                refine StepAll.cons (fun D s wc hR (hDi : D 10 = false) hd hsh a' hs K hK => ?_) ?_
                · have e76 := hs.at_ 8 76 (u := .int .i64 (k : Int)) rfl (hd ⟨8, .data⟩ (by simp) rfl) (by kernel_rfl) (by kernel_rfl) rfl
                  have e77 := hs.at_ 9 77 (u := .int .i64 (wd : Int)) rfl (hd ⟨9, .data⟩ (by simp) rfl) (by kernel_rfl) (by kernel_rfl) rfl
                  clear hs
                  have h1 := HKQ.out
                  have h2 := HWQ.out
                  go_simp
                  exact hK s wc (fun _ _ => rfl) hR
                refine StepAll.cons (fun D s wc hR (hDi : D 11 = false) hd hsh a' hs K hK => ?_) ?_
                · have e78 := hs.at_ 10 78 (u := .int .i64 (kq : Nat)) rfl (hd ⟨10, .data⟩ (by simp) rfl) (by kernel_rfl) (by kernel_rfl) rfl
                  clear hs
                  go_simp
                  exact hK s wc (fun _ _ => rfl) hR
                refine StepAll.cons (fun D s wc hR (hDi : D 12 = false) hd hsh a' hs K hK => ?_) ?_
                · have e75 := hs.at_ 7 75 (u := .int .i64 x) rfl (hd ⟨7, .data⟩ (by simp) rfl) (by kernel_rfl) (by kernel_rfl) rfl
                  have e79 := hs.at_ 11 79 (u := .int .i64 (IntKind.i64.wrap (2 ^ kq))) rfl (hd ⟨11, .data⟩ (by simp) rfl) (by kernel_rfl) (by kernel_rfl) rfl
                  clear hs
                  have hy := HY.out
                  go_simp
                  exact hK s wc (fun _ _ => rfl) hR
                refine StepAll.cons (fun D s wc hR (hDi : D 13 = false) hd hsh a' hs K hK => ?_) ?_
                · have e69 := hs.at_ 1 69 (u := .slice (some ⟨gs, 0, none⟩) N N) rfl (hd ⟨1, .data⟩ (by simp) rfl) (by kernel_rfl) (by kernel_rfl) rfl
                  have e70 := hs.at_ 2 70 (u := .int .i64 (k : Int)) rfl (hd ⟨2, .data⟩ (by simp) rfl) (by kernel_rfl) (by kernel_rfl) rfl
                  clear hs
                  go_simp
                  exact hK s wc (fun _ _ => rfl) hR
                refine StepAll.cons (fun D s wc hR (hDi : D 14 = false) hd hsh a' hs K hK => ?_) ?_
                · have e81 := hs.at_ 13 81 (u := .pointer (some ⟨gs, k, none⟩)) rfl (hd ⟨13, .data⟩ (by simp) rfl) (by kernel_rfl) (by kernel_rfl) rfl
                  have e80 := hs.at_ 12 80 (u := .int .i64 y) rfl (hd ⟨12, .data⟩ (by simp) rfl) (by kernel_rfl) (by kernel_rfl) rfl
                  clear hs
                  have hc := hR.cellI 2 (xs := xs2) (by simp only [hDi] <;> rfl) HXL2.out (k) x HX.out
                  have c0 := hc.1
                  have f0 := hc.2
                  go_simp
                  exact hK s _ (fun _ _ => rfl) ((hR.putI 2 (xs := xs2) (by simp only [hDi]; rfl) HXL2.out (k) y HYW.out).congr
                      (fun i => by
                        match i with
                        | 0 => rfl
                        | 1 => rfl
                        | 2 => rfl
                        | q + 3 => exact (if_neg (show ¬ (q + 3 = 2) by omega)).symm))
                exact StepAll.nil
              · intro D s wc hR hD
                simp only [putA, Act.put, List.setIfInBounds_toArray, List.set_cons_zero, List.set_cons_succ]
                have HS3 : Hid (St w wc [rBlk w.heap.size 25 #[.slice none 0 0], rBlk g5 25 #[.slice (some ⟨gs, 0, none⟩) N N], rInts (.slice (some ⟨gs, 0, none⟩) N N) ((xs2).set (k) y)]) := Lib.hid (hR.to_st [0, 1, 2] (by decide) (by simp only [List.map, hD 14 (by decide)] <;> rfl))
                clear hR hD HS2
                obtain ⟨xs3, hxs3⟩ : ∃ ys, xs2.set k y = ys := ⟨_, rfl⟩
                have HXL3 : Bx (xs3.length = N) := Bx.mk (by rw [← hxs3, List.length_set]; exact HXL2.out)
                rw [hxs3] at HS3
                clear hxs3 HX HY HYW
                obtain ⟨x, hx⟩ : ∃ x, xs3[kq]? = some x := ⟨_, List.getElem?_eq_getElem (by rw [HXL3.out]; exact hkqN)⟩
                obtain ⟨y, hy⟩ : ∃ y, IntKind.i64.wrap (x + IntKind.i64.wrap (2 ^ k)) = y := ⟨_, rfl⟩
                have HX := Bx.mk hx
                have HY := Bx.mk hy
                have HYW : Bx ((Lit.int .i64 y).wf = true) := Bx.mk (by rw [← hy]; exact wf_wrap _ _)
                clear hx hy
                go_upto_region 12 with (fail)
                refine wp_reg (σ := Unit) (by kernel_rfl) (by kernel_rfl) (by kernel_rfl)
                  (fun s i => match i with
                    | 0 => .pointer (some ⟨g5, 0, none⟩)
                    | 1 => .slice (some ⟨gs, 0, none⟩) N N
                    | 2 => .int .i64 (k : Int)
                    | 3 => .int .i64 (wd : Int)
                    | 4 => .int .i64 (kq : Nat)
                    | 5 => .pointer (some ⟨g5, 0, none⟩)
                    | 6 => .slice (some ⟨gs, 0, none⟩) N N
                    | 7 => .int .i64 (k : Int)
                    | 8 => .int .i64 (wd : Int)
                    | 9 => .int .i64 (kq : Nat)
                    | 10 => .pointer (some ⟨gs, kq, none⟩)
                    | 11 => .int .i64 x
                    | 12 => .int .i64 (k : Int)
                    | 13 => .int .i64 (IntKind.i64.wrap (2 ^ k))
                    | 14 => .int .i64 y
                    | 15 => .pointer (some ⟨gs, kq, none⟩)
                    | _ => undef)
                  (fun D s wd1 => Sn w wd1 fun i => match i with
                    | 0 => some (rBlk w.heap.size 25 #[.slice none 0 0])
                    | 1 => some (rBlk g5 25 #[.slice (some ⟨gs, 0, none⟩) N N])
                    | 2 => some (rInts (.slice (some ⟨gs, 0, none⟩) N N) (if D 16 = true then (xs3).set (kq) y else xs3))
                    | _ => none)
                  () ?_ ?_ ?_
                · intro D hD
                  refine ((Sn.of_st HS3.out).quiet ((Below.refl _ _).drew)).congr fun i => ?_
                  match i with
                  | 0 => rfl
                  | 1 => rfl
                  | 2 => simp only [hD 16 (by decide)]; rfl
                  | q + 3 => rfl
                · refine StepAll.cons (fun D s wd1 hR (hDi : D 0 = false) hd hsh a' hs K hK => ?_) ?_
                  · have e5 := hs.old 5 (u := .pointer (some ⟨g5, 0, none⟩)) (by kernel_rfl) rfl
                    clear hs
                    go_simp
                    exact hK s wd1 (fun _ _ => rfl) hR
                  refine StepAll.cons (fun D s wd1 hR (hDi : D 1 = false) hd hsh a' hs K hK => ?_) ?_
                  · have e82 := hs.at_ 0 82 (u := .pointer (some ⟨g5, 0, none⟩)) rfl (hd ⟨0, .data⟩ (by simp) rfl) (by kernel_rfl) (by kernel_rfl) rfl
                    clear hs
                    have kb : Blk wd1 (g5) 25 #[.slice (some ⟨gs, 0, none⟩) N N] := hR.blk 1 rfl
                    have c0 : wd1.cell? ⟨g5, 0, none⟩ = some (.slice (some ⟨gs, 0, none⟩) N N) := kb.cell 0
                    go_simp
                    exact hK s wd1 (fun _ _ => rfl) hR
                  refine StepAll.cons (fun D s wd1 hR (hDi : D 2 = false) hd hsh a' hs K hK => ?_) ?_
                  · have e6 := hs.old 6 (u := .int .i64 (k : Int)) (by kernel_rfl) rfl
                    clear hs
                    go_simp
                    exact hK s wd1 (fun _ _ => rfl) hR
                  refine StepAll.cons (fun D s wd1 hR (hDi : D 3 = false) hd hsh a' hs K hK => ?_) ?_
                  · have e0 := hs.old 0 (u := .int .i64 (wd : Int)) (by kernel_rfl) rfl
                    clear hs
                    go_simp
                    exact hK s wd1 (fun _ _ => rfl) hR
                  refine StepAll.cons (fun D s wd1 hR (hDi : D 4 = false) hd hsh a' hs K hK => ?_) ?_
                  · have e84 := hs.at_ 2 84 (u := .int .i64 (k : Int)) rfl (hd ⟨2, .data⟩ (by simp) rfl) (by kernel_rfl) (by kernel_rfl) rfl
                    have e85 := hs.at_ 3 85 (u := .int .i64 (wd : Int)) rfl (hd ⟨3, .data⟩ (by simp) rfl) (by kernel_rfl) (by kernel_rfl) rfl
                    clear hs
                    have h1 := HKQ.out
                    have h2 := HWQ.out
                    go_simp
                    exact hK s wd1 (fun _ _ => rfl) hR
                  refine StepAll.cons (fun D s wd1 hR (hDi : D 5 = false) hd hsh a' hs K hK => ?_) ?_
                  · have e5 := hs.old 5 (u := .pointer (some ⟨g5, 0, none⟩)) (by kernel_rfl) rfl
                    clear hs
                    go_simp
                    exact hK s wd1 (fun _ _ => rfl) hR
                  refine StepAll.cons (fun D s wd1 hR (hDi : D 6 = false) hd hsh a' hs K hK => ?_) ?_
                  · have e87 := hs.at_ 5 87 (u := .pointer (some ⟨g5, 0, none⟩)) rfl (hd ⟨5, .data⟩ (by simp) rfl) (by kernel_rfl) (by kernel_rfl) rfl
                    clear hs
                    have kb : Blk wd1 (g5) 25 #[.slice (some ⟨gs, 0, none⟩) N N] := hR.blk 1 rfl
                    have c0 : wd1.cell? ⟨g5, 0, none⟩ = some (.slice (some ⟨gs, 0, none⟩) N N) := kb.cell 0
                    go_simp
                    exact hK s wd1 (fun _ _ => rfl) hR
                  refine StepAll.cons (fun D s wd1 hR (hDi : D 7 = false) hd hsh a' hs K hK => ?_) ?_
                  · have e6 := hs.old 6 (u := .int .i64 (k : Int)) (by kernel_rfl) rfl
                    clear hs
                    go_simp
                    exact hK s wd1 (fun _ _ => rfl) hR
                  refine StepAll.cons (fun D s wd1 hR (hDi : D 8 = false) hd hsh a' hs K hK => ?_) ?_
                  · have e0 := hs.old 0 (u := .int .i64 (wd : Int)) (by kernel_rfl) rfl
                    clear hs
                    go_simp
                    exact hK s wd1 (fun _ _ => rfl) hR
                  refine StepAll.cons (fun D s wd1 hR (hDi : D 9 = false) hd hsh a' hs K hK => ?_) ?_
                  · have e89 := hs.at_ 7 89 (u := .int .i64 (k : Int)) rfl (hd ⟨7, .data⟩ (by simp) rfl) (by kernel_rfl) (by kernel_rfl) rfl
                    have e90 := hs.at_ 8 90 (u := .int .i64 (wd : Int)) rfl (hd ⟨8, .data⟩ (by simp) rfl) (by kernel_rfl) (by kernel_rfl) rfl
                    clear hs
                    have h1 := HKQ.out
                    have h2 := HWQ.out
                    go_simp
                    exact hK s wd1 (fun _ _ => rfl) hR
                  refine StepAll.cons (fun D s wd1 hR (hDi : D 10 = false) hd hsh a' hs K hK => ?_) ?_
                  · have e88 := hs.at_ 6 88 (u := .slice (some ⟨gs, 0, none⟩) N N) rfl (hd ⟨6, .data⟩ (by simp) rfl) (by kernel_rfl) (by kernel_rfl) rfl
                    have e91 := hs.at_ 9 91 (u := .int .i64 (kq : Nat)) rfl (hd ⟨9, .data⟩ (by simp) rfl) (by kernel_rfl) (by kernel_rfl) rfl
                    clear hs
                    go_simp
                    exact hK s wd1 (fun _ _ => rfl) hR
                  refine StepAll.cons (fun D s wd1 hR (hDi : D 11 = false) hd hsh a' hs K hK => ?_) ?_
                  · have e92 := hs.at_ 10 92 (u := .pointer (some ⟨gs, kq, none⟩)) rfl (hd ⟨10, .data⟩ (by simp) rfl) (by kernel_rfl) (by kernel_rfl) rfl
                    clear hs
                    have n14 : D 14 = false := hsh.no hDi 14 rfl ⟨11, .data⟩ (by simp) rfl rfl
                    have n16 : D 16 = false := hsh.no n14 16 rfl ⟨14, .data⟩ (by simp) rfl rfl
                    have c0 := (hR.cellI 2 (xs := xs3) (by simp only [n16] <;> rfl) HXL3.out (kq) x HX.out).1
                    go_simp
                    exact hK s wd1 (fun _ _ => rfl) hR
                  refine StepAll.cons (fun D s wd1 hR (hDi : D 12 = false) hd hsh a' hs K hK => ?_) ?_
                  · have e6 := hs.old 6 (u := .int .i64 (k : Int)) (by kernel_rfl) rfl
                    clear hs
                    go_simp
                    exact hK s wd1 (fun _ _ => rfl) hR
                  refine StepAll.cons (fun D s wd1 hR (hDi : D 13 = false) hd hsh a' hs K hK => ?_) ?_
                  · have e94 := hs.at_ 12 94 (u := .int .i64 (k : Int)) rfl (hd ⟨12, .data⟩ (by simp) rfl) (by kernel_rfl) (by kernel_rfl) rfl
                    clear hs
                    go_simp
                    exact hK s wd1 (fun _ _ => rfl) hR
                  refine StepAll.cons (fun D s wd1 hR (hDi : D 14 = false) hd hsh a' hs K hK => ?_) ?_
                  · have e93 := hs.at_ 11 93 (u := .int .i64 x) rfl (hd ⟨11, .data⟩ (by simp) rfl) (by kernel_rfl) (by kernel_rfl) rfl
                    have e95 := hs.at_ 13 95 (u := .int .i64 (IntKind.i64.wrap (2 ^ k))) rfl (hd ⟨13, .data⟩ (by simp) rfl) (by kernel_rfl) (by kernel_rfl) rfl
                    clear hs
                    have hy := HY.out
                    go_simp
                    exact hK s wd1 (fun _ _ => rfl) hR
                  refine StepAll.cons (fun D s wd1 hR (hDi : D 15 = false) hd hsh a' hs K hK => ?_) ?_
                  · have e83 := hs.at_ 1 83 (u := .slice (some ⟨gs, 0, none⟩) N N) rfl (hd ⟨1, .data⟩ (by simp) rfl) (by kernel_rfl) (by kernel_rfl) rfl
                    have e86 := hs.at_ 4 86 (u := .int .i64 (kq : Nat)) rfl (hd ⟨4, .data⟩ (by simp) rfl) (by kernel_rfl) (by kernel_rfl) rfl
                    clear hs
                    go_simp
                    exact hK s wd1 (fun _ _ => rfl) hR
                  refine StepAll.cons (fun D s wd1 hR (hDi : D 16 = false) hd hsh a' hs K hK => ?_) ?_
                  · have e97 := hs.at_ 15 97 (u := .pointer (some ⟨gs, kq, none⟩)) rfl (hd ⟨15, .data⟩ (by simp) rfl) (by kernel_rfl) (by kernel_rfl) rfl
                    have e96 := hs.at_ 14 96 (u := .int .i64 y) rfl (hd ⟨14, .data⟩ (by simp) rfl) (by kernel_rfl) (by kernel_rfl) rfl
                    clear hs
                    have hc := hR.cellI 2 (xs := xs3) (by simp only [hDi] <;> rfl) HXL3.out (kq) x HX.out
                    have c0 := hc.1
                    have f0 := hc.2
                    go_simp
                    exact hK s _ (fun _ _ => rfl) ((hR.putI 2 (xs := xs3) (by simp only [hDi]; rfl) HXL3.out (kq) y HYW.out).congr
                        (fun i => by
                          match i with
                          | 0 => rfl
                          | 1 => rfl
                          | 2 => rfl
                          | q + 3 => exact (if_neg (show ¬ (q + 3 = 2) by omega)).symm))
                  exact StepAll.nil
                · intro D s wd1 hR hD
                  simp only [putA, Act.put, List.setIfInBounds_toArray, List.set_cons_zero, List.set_cons_succ]
                  have HS4 : Hid (St w wd1 [rBlk w.heap.size 25 #[.slice none 0 0], rBlk g5 25 #[.slice (some ⟨gs, 0, none⟩) N N], rInts (.slice (some ⟨gs, 0, none⟩) N N) ((xs3).set (kq) y)]) := Lib.hid (hR.to_st [0, 1, 2] (by decide) (by simp only [List.map, hD 16 (by decide)] <;> rfl))
                  clear hR hD HS3
                  go_wp2
                  go_roundw
                  case rel => exact ⟨k + 1, _, by omega, by go_num, by rw [List.length_set]; exact HXL3.out, HS4.out⟩
                  case measure => simp [intOf]; omega
            · have hBi : ¬ (wd : Int) ≤ (k : Int) := by omega
              go_wp2
              go_roundw
              case rel => exact ⟨k + 1, _, by omega, by go_num, HXL2.out, HS2.out⟩
              case measure => simp [intOf]; omega
      · have hAi : ¬ (0 : Int) < (r : Int) := by omega
        by_cases hB : wd ≤ k
        · have hBi : (wd : Int) ≤ (k : Int) := by omega
          obtain ⟨kq, hkq⟩ : ∃ kq : Nat, k = kq + wd := ⟨k - wd, by omega⟩
          have HKQ : Bx ((k : Int) - (wd : Int) = (kq : Int)) := Bx.mk (by omega)
          have HWQ : Bx (IntKind.i64.wrap (kq : Int) = (kq : Int)) := Bx.mk (by rw [IntKind.wrap_i64] <;> omega)
          have hkq9 : kq < 9 := by omega
          have hkqN : kq < N := by omega
          have hkqi : (kq : Int) < (N : Int) := by omega
          obtain ⟨x, hx⟩ : ∃ x, xs[k]? = some x := ⟨_, List.getElem?_eq_getElem (by rw [HXL.out]; exact hlt)⟩
          obtain ⟨y, hy⟩ : ∃ y, IntKind.i64.wrap (x + IntKind.i64.wrap (2 ^ kq)) = y := ⟨_, rfl⟩
          have HX := Bx.mk hx
          have HY := Bx.mk hy
          have HYW : Bx ((Lit.int .i64 y).wf = true) := Bx.mk (by rw [← hy]; exact wf_wrap _ _)
          clear hx hy hkq
          go_upto_region 11 with (fail)
          refine wp_reg (σ := Unit) (by kernel_rfl) (by kernel_rfl) (by kernel_rfl)
            (fun s i => match i with
              | 0 => .pointer (some ⟨g5, 0, none⟩)
              | 1 => .slice (some ⟨gs, 0, none⟩) N N
              | 2 => .int .i64 (k : Int)
              | 3 => .pointer (some ⟨g5, 0, none⟩)
              | 4 => .slice (some ⟨gs, 0, none⟩) N N
              | 5 => .int .i64 (k : Int)
              | 6 => .pointer (some ⟨gs, k, none⟩)
              | 7 => .int .i64 x
              | 8 => .int .i64 (k : Int)
              | 9 => .int .i64 (wd : Int)
              | 10 => .int .i64 (kq : Nat)
              | 11 => .int .i64 (IntKind.i64.wrap (2 ^ kq))
              | 12 => .int .i64 y
              | 13 => .pointer (some ⟨gs, k, none⟩)
              | _ => undef)
            (fun D s wc => Sn w wc fun i => match i with
              | 0 => some (rBlk w.heap.size 25 #[.slice none 0 0])
              | 1 => some (rBlk g5 25 #[.slice (some ⟨gs, 0, none⟩) N N])
              | 2 => some (rInts (.slice (some ⟨gs, 0, none⟩) N N) (if D 14 = true then (xs).set (k) y else xs))
              | _ => none)
            () ?_ ?_ ?_
          · intro D hD
            refine ((Sn.of_st HS.out).quiet ((Below.refl _ _).drew)).congr fun i => ?_
            match i with
            | 0 => rfl
            | 1 => rfl
            | 2 => simp only [hD 14 (by decide)]; rfl
            | q + 3 => rfl
          · refine StepAll.cons (fun D s wc hR (hDi : D 0 = false) hd hsh a' hs K hK => ?_) ?_
            · have e5 := hs.old 5 (u := .pointer (some ⟨g5, 0, none⟩)) (by kernel_rfl) rfl
              clear hs
              go_simp
              exact hK s wc (fun _ _ => rfl) hR
            refine StepAll.cons (fun D s wc hR (hDi : D 1 = false) hd hsh a' hs K hK => ?_) ?_
            · have e68 := hs.at_ 0 68 (u := .pointer (some ⟨g5, 0, none⟩)) rfl (hd ⟨0, .data⟩ (by simp) rfl) (by kernel_rfl) (by kernel_rfl) rfl
              clear hs
              have kb : Blk wc (g5) 25 #[.slice (some ⟨gs, 0, none⟩) N N] := hR.blk 1 rfl
              have c0 : wc.cell? ⟨g5, 0, none⟩ = some (.slice (some ⟨gs, 0, none⟩) N N) := kb.cell 0
              go_simp
              exact hK s wc (fun _ _ => rfl) hR
            refine StepAll.cons (fun D s wc hR (hDi : D 2 = false) hd hsh a' hs K hK => ?_) ?_
            · have e6 := hs.old 6 (u := .int .i64 (k : Int)) (by kernel_rfl) rfl
              clear hs
              go_simp
              exact hK s wc (fun _ _ => rfl) hR
            refine StepAll.cons (fun D s wc hR (hDi : D 3 = false) hd hsh a' hs K hK => ?_) ?_
            · have e5 := hs.old 5 (u := .pointer (some ⟨g5, 0, none⟩)) (by kernel_rfl) rfl
              clear hs
              go_simp
              exact hK s wc (fun _ _ => rfl) hR
            refine StepAll.cons (fun D s wc hR (hDi : D 4 = false) hd hsh a' hs K hK => ?_) ?_
            · have e71 := hs.at_ 3 71 (u := .pointer (some ⟨g5, 0, none⟩)) rfl (hd ⟨3, .data⟩ (by simp) rfl) (by kernel_rfl) (by kernel_rfl) rfl
              clear hs
              have kb : Blk wc (g5) 25 #[.slice (some ⟨gs, 0, none⟩) N N] := hR.blk 1 rfl
              have c0 : wc.cell? ⟨g5, 0, none⟩ = some (.slice (some ⟨gs, 0, none⟩) N N) := kb.cell 0
              go_simp
              exact hK s wc (fun _ _ => rfl) hR
            refine StepAll.cons (fun D s wc hR (hDi : D 5 = false) hd hsh a' hs K hK => ?_) ?_
            · have e6 := hs.old 6 (u := .int .i64 (k : Int)) (by kernel_rfl) rfl
              clear hs
              go_simp
              exact hK s wc (fun _ _ => rfl) hR
            refine StepAll.cons (fun D s wc hR (hDi : D 6 = false) hd hsh a' hs K hK => ?_) ?_
            · have e72 := hs.at_ 4 72 (u := .slice (some ⟨gs, 0, none⟩) N N) rfl (hd ⟨4, .data⟩ (by simp) rfl) (by kernel_rfl) (by kernel_rfl) rfl
              have e73 := hs.at_ 5 73 (u := .int .i64 (k : Int)) rfl (hd ⟨5, .data⟩ (by simp) rfl) (by kernel_rfl) (by kernel_rfl) rfl
              clear hs
              go_simp
              exact hK s wc (fun _ _ => rfl) hR
            refine StepAll.cons (fun D s wc hR (hDi : D 7 = false) hd hsh a' hs K hK => ?_) ?_
            · have e74 := hs.at_ 6 74 (u := .pointer (some ⟨gs, k, none⟩)) rfl (hd ⟨6, .data⟩ (by simp) rfl) (by kernel_rfl) (by kernel_rfl) rfl
              clear hs
              have n12 : D 12 = false := hsh.no hDi 12 rfl ⟨7, .data⟩ (by simp) rfl rfl
              have n14 : D 14 = false := hsh.no n12 14 rfl ⟨12, .data⟩ (by simp) rfl rfl
              have c0 := (hR.cellI 2 (xs := xs) (by simp only [n14] <;> rfl) HXL.out (k) x HX.out).1
              go_simp
              exact hK s wc (fun _ _ => rfl) hR
            refine StepAll.cons (fun D s wc hR (hDi : D 8 = false) hd hsh a' hs K hK => ?_) ?_
            · have e6 := hs.old 6 (u := .int .i64 (k : Int)) (by kernel_rfl) rfl
              clear hs
              go_simp
              exact hK s wc (fun _ _ => rfl) hR
            refine StepAll.cons (fun D s wc hR (hDi : D 9 = false) hd hsh a' hs K hK => ?_) ?_
            · have e0 := hs.old 0 (u := .int .i64 (wd : Int)) (by kernel_rfl) rfl
              clear hs
              go_simp
              exact hK s wc (fun _ _ => rfl) hR
            refine StepAll.cons (fun D s wc hR (hDi : D 10 = false) hd hsh a' hs K hK => ?_) ?_
            · have e76 := hs.at_ 8 76 (u := .int .i64 (k : Int)) rfl (hd ⟨8, .data⟩ (by simp) rfl) (by kernel_rfl) (by kernel_rfl) rfl
              have e77 := hs.at_ 9 77 (u := .int .i64 (wd : Int)) rfl (hd ⟨9, .data⟩ (by simp) rfl) (by kernel_rfl) (by kernel_rfl) rfl
              clear hs
              have h1 := HKQ.out
              have h2 := HWQ.out
              go_simp
              exact hK s wc (fun _ _ => rfl) hR
            refine StepAll.cons (fun D s wc hR (hDi : D 11 = false) hd hsh a' hs K hK => ?_) ?_
            · have e78 := hs.at_ 10 78 (u := .int .i64 (kq : Nat)) rfl (hd ⟨10, .data⟩ (by simp) rfl) (by kernel_rfl) (by kernel_rfl) rfl
              clear hs
              go_simp
              exact hK s wc (fun _ _ => rfl) hR
            refine StepAll.cons (fun D s wc hR (hDi : D 12 = false) hd hsh a' hs K hK => ?_) ?_
            · have e75 := hs.at_ 7 75 (u := .int .i64 x) rfl (hd ⟨7, .data⟩ (by simp) rfl) (by kernel_rfl) (by kernel_rfl) rfl
              have e79 := hs.at_ 11 79 (u := .int .i64 (IntKind.i64.wrap (2 ^ kq))) rfl (hd ⟨11, .data⟩ (by simp) rfl) (by kernel_rfl) (by kernel_rfl) rfl
              clear hs
              have hy := HY.out
              go_simp
              exact hK s wc (fun _ _ => rfl) hR
            refine StepAll.cons (fun D s wc hR (hDi : D 13 = false) hd hsh a' hs K hK => ?_) ?_
            · have e69 := hs.at_ 1 69 (u := .slice (some ⟨gs, 0, none⟩) N N) rfl (hd ⟨1, .data⟩ (by simp) rfl) (by kernel_rfl) (by kernel_rfl) rfl
              have e70 := hs.at_ 2 70 (u := .int .i64 (k : Int)) rfl (hd ⟨2, .data⟩ (by simp) rfl) (by kernel_rfl) (by kernel_rfl) rfl
              clear hs
              go_simp
              exact hK s wc (fun _ _ => rfl) hR
            refine StepAll.cons (fun D s wc hR (hDi : D 14 = false) hd hsh a' hs K hK => ?_) ?_
            · have e81 := hs.at_ 13 81 (u := .pointer (some ⟨gs, k, none⟩)) rfl (hd ⟨13, .data⟩ (by simp) rfl) (by kernel_rfl) (by kernel_rfl) rfl
              have e80 := hs.at_ 12 80 (u := .int .i64 y) rfl (hd ⟨12, .data⟩ (by simp) rfl) (by kernel_rfl) (by kernel_rfl) rfl
              clear hs
              have hc := hR.cellI 2 (xs := xs) (by simp only [hDi] <;> rfl) HXL.out (k) x HX.out
              have c0 := hc.1
              have f0 := hc.2
              go_simp
              exact hK s _ (fun _ _ => rfl) ((hR.putI 2 (xs := xs) (by simp only [hDi]; rfl) HXL.out (k) y HYW.out).congr
                  (fun i => by
                    match i with
                    | 0 => rfl
                    | 1 => rfl
                    | 2 => rfl
                    | q + 3 => exact (if_neg (show ¬ (q + 3 = 2) by omega)).symm))
            exact StepAll.nil
          · intro D s wc hR hD
            simp only [putA, Act.put, List.setIfInBounds_toArray, List.set_cons_zero, List.set_cons_succ]
            have HS3 : Hid (St w wc [rBlk w.heap.size 25 #[.slice none 0 0], rBlk g5 25 #[.slice (some ⟨gs, 0, none⟩) N N], rInts (.slice (some ⟨gs, 0, none⟩) N N) ((xs).set (k) y)]) := Lib.hid (hR.to_st [0, 1, 2] (by decide) (by simp only [List.map, hD 14 (by decide)] <;> rfl))
            clear hR hD HS
            obtain ⟨xs3, hxs3⟩ : ∃ ys, xs.set k y = ys := ⟨_, rfl⟩
            have HXL3 : Bx (xs3.length = N) := Bx.mk (by rw [← hxs3, List.length_set]; exact HXL.out)
            rw [hxs3] at HS3
            clear hxs3 HX HY HYW
            obtain ⟨x, hx⟩ : ∃ x, xs3[kq]? = some x := ⟨_, List.getElem?_eq_getElem (by rw [HXL3.out]; exact hkqN)⟩
            obtain ⟨y, hy⟩ : ∃ y, IntKind.i64.wrap (x + IntKind.i64.wrap (2 ^ k)) = y := ⟨_, rfl⟩
            have HX := Bx.mk hx
            have HY := Bx.mk hy
            have HYW : Bx ((Lit.int .i64 y).wf = true) := Bx.mk (by rw [← hy]; exact wf_wrap _ _)
            clear hx hy
            go_upto_region 12 with (fail)
            refine wp_reg (σ := Unit) (by kernel_rfl) (by kernel_rfl) (by kernel_rfl)
              (fun s i => match i with
                | 0 => .pointer (some ⟨g5, 0, none⟩)
                | 1 => .slice (some ⟨gs, 0, none⟩) N N
                | 2 => .int .i64 (k : Int)
                | 3 => .int .i64 (wd : Int)
                | 4 => .int .i64 (kq : Nat)
                | 5 => .pointer (some ⟨g5, 0, none⟩)
                | 6 => .slice (some ⟨gs, 0, none⟩) N N
                | 7 => .int .i64 (k : Int)
                | 8 => .int .i64 (wd : Int)
                | 9 => .int .i64 (kq : Nat)
                | 10 => .pointer (some ⟨gs, kq, none⟩)
                | 11 => .int .i64 x
                | 12 => .int .i64 (k : Int)
                | 13 => .int .i64 (IntKind.i64.wrap (2 ^ k))
                | 14 => .int .i64 y
                | 15 => .pointer (some ⟨gs, kq, none⟩)
                | _ => undef)
              (fun D s wd1 => Sn w wd1 fun i => match i with
                | 0 => some (rBlk w.heap.size 25 #[.slice none 0 0])
                | 1 => some (rBlk g5 25 #[.slice (some ⟨gs, 0, none⟩) N N])
                | 2 => some (rInts (.slice (some ⟨gs, 0, none⟩) N N) (if D 16 = true then (xs3).set (kq) y else xs3))
                | _ => none)
              () ?_ ?_ ?_
            · intro D hD
              refine ((Sn.of_st HS3.out).quiet ((Below.refl _ _).drew)).congr fun i => ?_
              match i with
              | 0 => rfl
              | 1 => rfl
              | 2 => simp only [hD 16 (by decide)]; rfl
              | q + 3 => rfl
            · refine StepAll.cons (fun D s wd1 hR (hDi : D 0 = false) hd hsh a' hs K hK => ?_) ?_
              · have e5 := hs.old 5 (u := .pointer (some ⟨g5, 0, none⟩)) (by kernel_rfl) rfl
                clear hs
                go_simp
                exact hK s wd1 (fun _ _ => rfl) hR
              refine StepAll.cons (fun D s wd1 hR (hDi : D 1 = false) hd hsh a' hs K hK => ?_) ?_
              · have e82 := hs.at_ 0 82 (u := .pointer (some ⟨g5, 0, none⟩)) rfl (hd ⟨0, .data⟩ (by simp) rfl) (by kernel_rfl) (by kernel_rfl) rfl
                clear hs
                have kb : Blk wd1 (g5) 25 #[.slice (some ⟨gs, 0, none⟩) N N] := hR.blk 1 rfl
                have c0 : wd1.cell? ⟨g5, 0, none⟩ = some (.slice (some ⟨gs, 0, none⟩) N N) := kb.cell 0
                go_simp
                exact hK s wd1 (fun _ _ => rfl) hR
              refine StepAll.cons (fun D s wd1 hR (hDi : D 2 = false) hd hsh a' hs K hK => ?_) ?_
              · have e6 := hs.old 6 (u := .int .i64 (k : Int)) (by kernel_rfl) rfl
                clear hs
                go_simp
                exact hK s wd1 (fun _ _ => rfl) hR
              refine StepAll.cons (fun D s wd1 hR (hDi : D 3 = false) hd hsh a' hs K hK => ?_) ?_
              · have e0 := hs.old 0 (u := .int .i64 (wd : Int)) (by kernel_rfl) rfl
                clear hs
                go_simp
                exact hK s wd1 (fun _ _ => rfl) hR
              refine StepAll.cons (fun D s wd1 hR (hDi : D 4 = false) hd hsh a' hs K hK => ?_) ?_
              · have e84 := hs.at_ 2 84 (u := .int .i64 (k : Int)) rfl (hd ⟨2, .data⟩ (by simp) rfl) (by kernel_rfl) (by kernel_rfl) rfl
                have e85 := hs.at_ 3 85 (u := .int .i64 (wd : Int)) rfl (hd ⟨3, .data⟩ (by simp) rfl) (by kernel_rfl) (by kernel_rfl) rfl
                clear hs
                have h1 := HKQ.out
                have h2 := HWQ.out
                go_simp
                exact hK s wd1 (fun _ _ => rfl) hR
              refine StepAll.cons (fun D s wd1 hR (hDi : D 5 = false) hd hsh a' hs K hK => ?_) ?_
              · have e5 := hs.old 5 (u := .pointer (some ⟨g5, 0, none⟩)) (by kernel_rfl) rfl
                clear hs
                go_simp
                exact hK s wd1 (fun _ _ => rfl) hR
              refine StepAll.cons (fun D s wd1 hR (hDi : D 6 = false) hd hsh a' hs K hK => ?_) ?_
              · have e87 := hs.at_ 5 87 (u := .pointer (some ⟨g5, 0, none⟩)) rfl (hd ⟨5, .data⟩ (by simp) rfl) (by kernel_rfl) (by kernel_rfl) rfl
                clear hs
                have kb : Blk wd1 (g5) 25 #[.slice (some ⟨gs, 0, none⟩) N N] := hR.blk 1 rfl
                have c0 : wd1.cell? ⟨g5, 0, none⟩ = some (.slice (some ⟨gs, 0, none⟩) N N) := kb.cell 0
                go_simp
                exact hK s wd1 (fun _ _ => rfl) hR
              refine StepAll.cons (fun D s wd1 hR (hDi : D 7 = false) hd hsh a' hs K hK => ?_) ?_
              · have e6 := hs.old 6 (u := .int .i64 (k : Int)) (by kernel_rfl) rfl
                clear hs
                go_simp
                exact hK s wd1 (fun _ _ => rfl) hR
              refine StepAll.cons (fun D s wd1 hR (hDi : D 8 = false) hd hsh a' hs K hK => ?_) ?_
              · have e0 := hs.old 0 (u := .int .i64 (wd : Int)) (by kernel_rfl) rfl
                clear hs
                go_simp
                exact hK s wd1 (fun _ _ => rfl) hR
              refine StepAll.cons (fun D s wd1 hR (hDi : D 9 = false) hd hsh a' hs K hK => ?_) ?_
              · have e89 := hs.at_ 7 89 (u := .int .i64 (k : Int)) rfl (hd ⟨7, .data⟩ (by simp) rfl) (by kernel_rfl) (by kernel_rfl) rfl
                have e90 := hs.at_ 8 90 (u := .int .i64 (wd : Int)) rfl (hd ⟨8, .data⟩ (by simp) rfl) (by kernel_rfl) (by kernel_rfl) rfl
                clear hs
                have h1 := HKQ.out
                have h2 := HWQ.out
                go_simp
                exact hK s wd1 (fun _ _ => rfl) hR
              refine StepAll.cons (fun D s wd1 hR (hDi : D 10 = false) hd hsh a' hs K hK => ?_) ?_
              · have e88 := hs.at_ 6 88 (u := .slice (some ⟨gs, 0, none⟩) N N) rfl (hd ⟨6, .data⟩ (by simp) rfl) (by kernel_rfl) (by kernel_rfl) rfl
                have e91 := hs.at_ 9 91 (u := .int .i64 (kq : Nat)) rfl (hd ⟨9, .data⟩ (by simp) rfl) (by kernel_rfl) (by kernel_rfl) rfl
                clear hs
                go_simp
                exact hK s wd1 (fun _ _ => rfl) hR
              refine StepAll.cons (fun D s wd1 hR (hDi : D 11 = false) hd hsh a' hs K hK => ?_) ?_
              · have e92 := hs.at_ 10 92 (u := .pointer (some ⟨gs, kq, none⟩)) rfl (hd ⟨10, .data⟩ (by simp) rfl) (by kernel_rfl) (by kernel_rfl) rfl
                clear hs
                have n14 : D 14 = false := hsh.no hDi 14 rfl ⟨11, .data⟩ (by simp) rfl rfl
                have n16 : D 16 = false := hsh.no n14 16 rfl ⟨14, .data⟩ (by simp) rfl rfl
                have c0 := (hR.cellI 2 (xs := xs3) (by simp only [n16] <;> rfl) HXL3.out (kq) x HX.out).1
                go_simp
                exact hK s wd1 (fun _ _ => rfl) hR
              refine StepAll.cons (fun D s wd1 hR (hDi : D 12 = false) hd hsh a' hs K hK => ?_) ?_
              · have e6 := hs.old 6 (u := .int .i64 (k : Int)) (by kernel_rfl) rfl
                clear hs
                go_simp
                exact hK s wd1 (fun _ _ => rfl) hR
              refine StepAll.cons (fun D s wd1 hR (hDi : D 13 = false) hd hsh a' hs K hK => ?_) ?_
              · have e94 := hs.at_ 12 94 (u := .int .i64 (k : Int)) rfl (hd ⟨12, .data⟩ (by simp) rfl) (by kernel_rfl) (by kernel_rfl) rfl
                clear hs
                go_simp
                exact hK s wd1 (fun _ _ => rfl) hR
              refine StepAll.cons (fun D s wd1 hR (hDi : D 14 = false) hd hsh a' hs K hK => ?_) ?_
              · have e93 := hs.at_ 11 93 (u := .int .i64 x) rfl (hd ⟨11, .data⟩ (by simp) rfl) (by kernel_rfl) (by kernel_rfl) rfl
                have e95 := hs.at_ 13 95 (u := .int .i64 (IntKind.i64.wrap (2 ^ k))) rfl (hd ⟨13, .data⟩ (by simp) rfl) (by kernel_rfl) (by kernel_rfl) rfl
                clear hs
                have hy := HY.out
                go_simp
                exact hK s wd1 (fun _ _ => rfl) hR
              refine StepAll.cons (fun D s wd1 hR (hDi : D 15 = false) hd hsh a' hs K hK => ?_) ?_
              · have e83 := hs.at_ 1 83 (u := .slice (some ⟨gs, 0, none⟩) N N) rfl (hd ⟨1, .data⟩ (by simp) rfl) (by kernel_rfl) (by kernel_rfl) rfl
                have e86 := hs.at_ 4 86 (u := .int .i64 (kq : Nat)) rfl (hd ⟨4, .data⟩ (by simp) rfl) (by kernel_rfl) (by kernel_rfl) rfl
                clear hs
                go_simp
                exact hK s wd1 (fun _ _ => rfl) hR
              refine StepAll.cons (fun D s wd1 hR (hDi : D 16 = false) hd hsh a' hs K hK => ?_) ?_
              · have e97 := hs.at_ 15 97 (u := .pointer (some ⟨gs, kq, none⟩)) rfl (hd ⟨15, .data⟩ (by simp) rfl) (by kernel_rfl) (by kernel_rfl) rfl
                have e96 := hs.at_ 14 96 (u := .int .i64 y) rfl (hd ⟨14, .data⟩ (by simp) rfl) (by kernel_rfl) (by kernel_rfl) rfl
                clear hs
                have hc := hR.cellI 2 (xs := xs3) (by simp only [hDi] <;> rfl) HXL3.out (kq) x HX.out
                have c0 := hc.1
                have f0 := hc.2
                go_simp
                exact hK s _ (fun _ _ => rfl) ((hR.putI 2 (xs := xs3) (by simp only [hDi]; rfl) HXL3.out (kq) y HYW.out).congr
                    (fun i => by
                      match i with
                      | 0 => rfl
                      | 1 => rfl
                      | 2 => rfl
                      | q + 3 => exact (if_neg (show ¬ (q + 3 = 2) by omega)).symm))
              exact StepAll.nil
            · intro D s wd1 hR hD
              simp only [putA, Act.put, List.setIfInBounds_toArray, List.set_cons_zero, List.set_cons_succ]
              have HS4 : Hid (St w wd1 [rBlk w.heap.size 25 #[.slice none 0 0], rBlk g5 25 #[.slice (some ⟨gs, 0, none⟩) N N], rInts (.slice (some ⟨gs, 0, none⟩) N N) ((xs3).set (kq) y)]) := Lib.hid (hR.to_st [0, 1, 2] (by decide) (by simp only [List.map, hD 16 (by decide)] <;> rfl))
              clear hR hD HS3
              go_wp2
              go_roundw
              case rel => exact ⟨k + 1, _, by omega, by go_num, by rw [List.length_set]; exact HXL3.out, HS4.out⟩
              case measure => simp [intOf]; omega
        · have hBi : ¬ (wd : Int) ≤ (k : Int) := by omega
          go_wp2
          go_roundw
          case rel => exact ⟨k + 1, _, by omega, by go_num, HXL.out, HS.out⟩
          case measure => simp [intOf]; omega
    · have hki : ¬ (k : Int) < (N : Int) := by omega
      have q0 : ∀ j, wr.cell? ⟨w.heap.size, j, none⟩ = _ := HS.out.cells 0 rfl
      have f0 := HS.out.free 0 rfl
      have q1 : ∀ j, wr.cell? ⟨g5, j, none⟩ = _ := HS.out.cells 1 rfl
      go_wp2
      refine bodyPost_ret (v := .agg #[.slice (some ⟨gs, 0, none⟩) N N]) (by simp [results, Try.results48, go_sem, q0]) rfl ⟨gs, N, N, xs, rfl, HXL.out, hN1, h5, ?_⟩
      exact ((HS.out.set 0 rfl 0 (.slice (some ⟨gs, 0, none⟩) N N)).pick [2] (by decide) rfl rfl)
end Go.Proofs.Ytfgebdioffeliaa
