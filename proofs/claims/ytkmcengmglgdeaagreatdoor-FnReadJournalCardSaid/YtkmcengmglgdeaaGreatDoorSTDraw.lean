/- Joined texts: TDraw, DsPut. -/
import Derived.Test.YtkmcengmglgdeaaGreatDoorSDraw
import Derived.Test.YtkmcengmglgdeaaGreatDoorSPerm
/- The draws of conditions, deeds and tasks: what is drawn is some condition, deed or task of its own; nothing is said of which. -/
namespace Go.Proofs.YtkmcengmglgdeaaGreatDoor
set_option linter.unusedVariables false
set_option linter.unusedSimpArgs false
open Go.ChangeShapes Go.WideShapes Go.ChangeAt Go.RowKit

def Dig (xs : List Int) : Prop := ∀ x ∈ xs, 0 ≤ x ∧ x ≤ 9
theorem Dig.wf {xs : List Int} (h : Dig xs) : ∀ x ∈ xs, (Lit.int .i64 x).wf = true := fun x hx => wf_i64_mk (by have := h x hx; omega)
theorem Dig.app {xs ys : List Int} (h : Dig xs) (k : Dig ys) : Dig (xs ++ ys) := fun x hx => (List.mem_append.1 hx).elim (h x) (k x)
theorem Dig.one {x : Int} (h0 : 0 ≤ x) (h1 : x ≤ 9) : Dig [x] := fun y hy => by rw [List.mem_singleton] at hy; subst hy; exact ⟨h0, h1⟩
theorem Dig.two {x y : Int} (h0 : 0 ≤ x) (h1 : x ≤ 9) (k0 : 0 ≤ y) (k1 : y ≤ 9) : Dig [x, y] := (Dig.one h0 h1).app (Dig.one k0 k1)
theorem St.lit (w : World) (xs : List Int) (n : Nat) (e : n = xs.length) (hn : xs.length ≤ 1024) (hwf : ∀ x ∈ xs, (Lit.int .i64 x).wf = true) :
  St w (w.alloc (.cells (Go.Proofs.YtkmcengmglgdeaaGreatDoor.ints xs).toArray 3)) [rInts (.slice (some ⟨w.heap.size, 0, none⟩) n n) xs] :=
 (St.new1 w (Go.Proofs.YtkmcengmglgdeaaGreatDoor.ints xs).toArray 3).see fun F h _ => blk_ints (xs := xs) h (by unfold maxLen; omega) hwf e
theorem St.putI {w W : World} {L : List HRes} (h : St w W L) (i : Nat) {g n c : Nat} {xs : List Int} (hi : L[i]? = some (rInts (.slice (some ⟨g, 0, none⟩) n c) xs)) (hn : xs.length = n) (k : Nat) (y : Int) (hy : (Lit.int .i64 y).wf = true) :
  St w (W.setCell ⟨g, k, none⟩ (.int .i64 y)) (L.set i (rInts (.slice (some ⟨g, 0, none⟩) n c) (xs.set k y))) := by
 subst hn
 refine h.mod i hi fun F h1 _ => ⟨F, ⟨?_, fun x hx => (List.mem_or_eq_of_mem_set hx).elim (h1.wf x) (fun e => e ▸ hy), h1.foot⟩, fun b hb => .inl hb, (Only.refl F W).set (by rw [h1.foot]; simp [Value.ownBlock]) _⟩
 have := (h1.row.stored k (.int .i64 y)).1
 rw [ints_set] at this
 rw [List.length_set]
 exact this
set_option maxRecDepth 100000 in
theorem l20Leaf_rd {w W : World} {L : List HRes} {g hi : Nat} (S : St w W (rRd w g hi :: L)) (hh : hi ≤ 500000000000) :
  Calls Tryz.prog 185 #[.pointer (some ⟨g, 0, none⟩)] W fun e w' => ∃ v xs, e = .returned v ∧ xs.length ≤ 4 ∧ Dig xs ∧ St w w' (rRd w g (hi + 8) :: rInts v xs :: L) := by
 have HS := Lib.hid S
 clear S
 go_enter Tryz.func185, Tryz.ntmps185
 go_wp2_with fail
 refine (pick_rd HS.out (by omega) 5).mono ?_
 rintro e w1 ⟨x1, rfl, ⟨a1, a2, -⟩, s1⟩
 have a3 := a2 (by omega)
 obtain ⟨g1, hg1⟩ : ∃ g1, w1.heap.size = g1 := ⟨_, rfl⟩
 have HS1 : Hid (St w (w1.alloc (.cells #[.int .i64 x1] 3)) (rRd w g (hi + 1) :: rInts (.slice (some ⟨g1, 0, none⟩) 1 1) [x1] :: L)) := Lib.hid (by rw [← hg1]; exact s1.call1 (St.lit w1 [x1] 1 rfl (by simp) (Dig.one a1 (by omega)).wf))
 clear s1 a2
 go_wp2_with fail
 refine (pick_rd HS1.out (by omega) 9).mono ?_
 rintro e w2 ⟨x2, rfl, ⟨b1, b2, -⟩, s2⟩
 have b3 := b2 (by omega)
 have HS2 := Lib.hid s2
 try rw [hg1]
 clear s2 b2 hg1
 go_upto_if 9 with (fail)
 go_cut [3] (fun s3 wx => s3 = .slice (some ⟨g1, 0, none⟩) 1 1 ∧ ∃ y, 0 ≤ y ∧ y ≤ 9 ∧ St w wx (rRd w g (hi + 3) :: rInts s3 [y] :: L))
 case first =>
  by_cases h2 : x2 = 0
  ·subst h2
   go_wp2_with fail
   refine (pick_rd HS2.out (by omega) 2).mono ?_
   rintro e w3 ⟨x3, rfl, ⟨c1, c2, -⟩, s3⟩
   have c3 := c2 (by omega)
   obtain ⟨q0, f0⟩ := s3.cellI 1 rfl rfl 0 x1 rfl
   have HS3 := Lib.hid (s3.putI 1 rfl rfl 0 (5 + x3) (wf_i64_mk (by omega)))
   clear s3 c2
   go_wp2
   go_meet
   case rel => exact ⟨rfl, 5 + x3, by omega, by omega, HS3.out⟩
  ·have h2' : (x2 == 0) = false := by simpa using h2
   have HS3 := Lib.hid (HS2.out.more (hi' := hi + 3) (by omega))
   clear h2
   go_wp2
   go_meet
   case rel => exact ⟨rfl, x1, a1, by omega, HS3.out⟩
 case rest =>
  obtain ⟨rfl, y, y1, y2, SC⟩ := hcut
  have HS4 := Lib.hid SC
  clear SC HS2 HS1 HS a1 a3 b1 b3
  go_wp2_with fail
  refine (pick_rd HS4.out (by omega) 3).mono ?_
  rintro e w4 ⟨x4, rfl, ⟨d1, d2, -⟩, s4⟩
  have d3 := d2 (by omega)
  have HS5 := Lib.hid s4
  clear s4 d2
  go_upto_if 17 with (fail)
  go_cut [3] (fun s3 wx => ∃ xs, xs.length ≤ 3 ∧ Dig xs ∧ St w wx (rRd w g (hi + 6) :: rInts s3 xs :: L))
  case first =>
   by_cases h4 : x4 = 0
   ·subst h4
    go_wp2_with fail
    refine (pick_rd HS5.out (by omega) 5).mono ?_
    rintro e w6 ⟨x6, rfl, ⟨e1, e2, -⟩, s6⟩
    have e3 := e2 (by omega)
    have HS6 := Lib.hid s6
    clear s6 e2
    go_wp2_with fail
    refine (pick_rd HS6.out (by omega) 2).mono ?_
    rintro e w7 ⟨x7, rfl, ⟨f1, f2, -⟩, s7⟩
    have f3 := f2 (by omega)
    have HO := Lib.hid (s7.ownI 1 rfl)
    have HAP : Hid (∀ v8 w8, w8.ownsRow 0 3 1 v8 3 (ints [y] ++ [.int .i64 x6, .int .i64 (8 + x7)]) → (w7.alloc (.cells #[.int .i64 x6, .int .i64 (8 + x7)] 3)).grownBy w8 (Value.slice (some ⟨g1, 0, none⟩) 1 1).ownBlock → (v8.ownBlock = (Value.slice (some ⟨g1, 0, none⟩) 1 1).ownBlock ∨ v8.ownBlock = some (w7.alloc (.cells #[.int .i64 x6, .int .i64 (8 + x7)] 3)).heap.size) →
      St w w8 (rRd w g (hi + 6) :: rInts v8 ([y] ++ [x6, 8 + x7]) :: L)) := Lib.hid fun v8 w8 h1 h2 h3 =>
     (((s7.alloc1 #[.int .i64 x6, .int .i64 (8 + x7)] 3).rid 1 rfl).appI 1 (ys := [x6, 8 + x7]) rfl rfl h1 (Dig.two e1 (by omega) (by omega) (by omega)).wf h2 h3)
    clear s7 f2
    go_wp2_with (at_builtin; refine wp_app elInt rfl (.tmp 18) (.tmp 24) rfl 0 _ _ _ rfl (HO.out.alloc _) _ _ 2 2 [.int .i64 x6, .int .i64 (8 + x7)] rfl (RdRow.new w7 [.int .i64 x6, .int .i64 (8 + x7)] 3 1 2 rfl (by unfold maxLen; omega)) (by simp [Value.oneCell']) (by simp) (by simp) (Nat.zero_le _) ?_; intro v8 w8 hown8 hg8 hat8; have HS8 := Lib.hid (HAP.out v8 w8 hown8 hg8 hat8); clear hown8 hg8 hat8)
    have HD : Hid (Dig ([y] ++ [x6, 8 + x7])) := Lib.hid ((Dig.one y1 y2).app (Dig.two e1 (by omega) (by omega) (by omega)))
    go_wp2
    go_meet
    case rel => exact ⟨_, by simp, HD.out, HS8.out⟩
   ·have h4' : (x4 == 0) = false := by simpa using h4
    have HS6 := Lib.hid (HS5.out.more (hi' := hi + 6) (by omega))
    clear h4
    go_wp2
    go_meet
    case rel => exact ⟨_, by simp, Dig.one y1 y2, HS6.out⟩
  case rest =>
   obtain ⟨ys, hy1, hy2, SC⟩ := hcut
   have HS9 := Lib.hid SC
   have HD := Lib.hid hy2
   clear SC HS5 HS4 y1 y2 d1 d3 hy2
   go_wp2_with fail
   refine (pick_rd HS9.out (by omega) 4).mono ?_
   rintro e w10 ⟨x10, rfl, ⟨e1, e2, -⟩, s10⟩
   have e3 := e2 (by omega)
   by_cases h10 : x10 = 0
   ·subst h10
    have HO := Lib.hid (s10.ownI 1 rfl)
    have HAP : Hid (∀ v8 w8, w8.ownsRow 0 3 1 v8 (ys.length + 1) (ints ys ++ [.int .i64 7]) → (w10.alloc (.cells #[.int .i64 7] 3)).grownBy w8 u3.ownBlock → (v8.ownBlock = u3.ownBlock ∨ v8.ownBlock = some (w10.alloc (.cells #[.int .i64 7] 3)).heap.size) →
      St w w8 (rRd w g (hi + 7) :: rInts v8 (ys ++ [7]) :: L)) := Lib.hid fun v8 w8 h1 h2 h3 =>
     (((s10.alloc1 #[.int .i64 7] 3).rid 1 rfl).appI 1 (ys := [7]) rfl rfl h1 (Dig.one (by omega) (by omega)).wf h2 h3)
    clear s10 e2
    go_wp2_with (at_builtin; refine wp_app elInt rfl (.tmp 29) (.tmp 30) rfl 0 _ _ _ rfl (HO.out.alloc _) _ _ 1 1 [.int .i64 7] rfl (RdRow.new w10 [.int .i64 7] 3 1 1 rfl (by unfold maxLen; omega)) (by simp [Value.oneCell']) (by omega) (by omega) (Nat.zero_le _) ?_; intro v8 w8 hown8 hg8 hat8; have HS8 := Lib.hid (HAP.out v8 w8 hown8 hg8 hat8); clear hown8 hg8 hat8)
    have HD2 := Lib.hid (HD.out.app (Dig.one (x := 7) (by omega) (by omega)))
    go_wp2
    go_ret
    exact ⟨_, _, rfl, by simp; omega, HD2.out, HS8.out.more (by omega)⟩
   ·have h10' : (x10 == 0) = false := by simpa using h10
    have HS10 := Lib.hid s10
    clear h10 s10 e2
    go_wp2
    go_ret
    exact ⟨_, _, rfl, by omega, HD.out, HS10.out.more (by omega)⟩
set_option maxRecDepth 100000 in
theorem l20Need_rd {w W : World} {L : List HRes} {g hi : Nat} (S : St w W (rRd w g hi :: L)) (hh : hi ≤ 400000000000) :
  Calls Tryz.prog 153 #[.pointer (some ⟨g, 0, none⟩)] W fun e w' => ∃ v xs, e = .returned v ∧ xs.length ≤ 4 ∧ Dig xs ∧ St w w' (rRd w g (hi + 9) :: rInts v xs :: L) := by
 have HS := Lib.hid S
 clear S
 go_enter Tryz.func153, Tryz.ntmps153
 go_wp2_with fail
 refine (pick_rd HS.out (by omega) 4).mono ?_
 rintro e w1 ⟨x1, rfl, ⟨a1, a2, -⟩, s1⟩
 have a3 := a2 (by omega)
 have HS1 := Lib.hid s1
 clear s1 a2 HS
 by_cases h0 : x1 = 0
 ·subst h0
  have HS2 := Lib.hid ((HS1.out.call1 (St.lit w1 [5] 1 rfl (by simp) (Dig.one (by omega) (by omega)).wf)).more (hi' := hi + 9) (by omega))
  go_wp2
  go_ret
  exact ⟨_, [5], rfl, by simp, Dig.one (by omega) (by omega), HS2.out⟩
 have h0' : (x1 == 0) = false := by simpa using h0
 by_cases h1 : x1 = 1
 ·subst h1
  clear h0 h0'
  go_wp2_with fail
  refine (pick_rd HS1.out (by omega) 5).mono ?_
  rintro e w2 ⟨x2, rfl, ⟨b1, b2, -⟩, s2⟩
  have b3 := b2 (by omega)
  have HS2 := Lib.hid ((s2.call1 (St.lit w2 [x2] 1 rfl (by simp) (Dig.one b1 (by omega)).wf)).more (hi' := hi + 9) (by omega))
  clear s2 b2
  go_wp2
  go_ret
  exact ⟨_, [x2], rfl, by simp, Dig.one b1 (by omega), HS2.out⟩
 have h1' : (x1 == 1) = false := by simpa using h1
 by_cases h2 : x1 = 2
 ·subst h2
  clear h0 h0' h1 h1'
  go_wp2_with fail
  refine (pick_rd HS1.out (by omega) 5).mono ?_
  rintro e w2 ⟨x2, rfl, ⟨b1, b2, -⟩, s2⟩
  have b3 := b2 (by omega)
  have HS2 := Lib.hid ((s2.call1 (St.lit w2 [x2, 7] 2 rfl (by simp) (Dig.two b1 (by omega) (by omega) (by omega)).wf)).more (hi' := hi + 9) (by omega))
  clear s2 b2
  go_wp2
  go_ret
  exact ⟨_, [x2, 7], rfl, by simp, Dig.two b1 (by omega) (by omega) (by omega), HS2.out⟩
 have h2' : (x1 == 2) = false := by simpa using h2
 clear h0 h1 h2
 go_wp2_with fail
 refine (l20Leaf_rd HS1.out (by omega)).mono ?_
 rintro e w2 ⟨v, xs, rfl, hl, hd, s2⟩
 have HS2 := Lib.hid (s2.more (hi' := hi + 9) (by omega))
 have HD := Lib.hid hd
 clear s2 hd
 go_wp2
 go_ret
 exact ⟨v, xs, rfl, hl, HD.out, HS2.out⟩
set_option maxRecDepth 100000 in
set_option maxHeartbeats 1000000 in
theorem l20Deed_rd {w W : World} {L : List HRes} {g hi : Nat} (S : St w W (rRd w g hi :: L)) (hh : hi ≤ 300000000000) (n : Int) :
  Calls Tryz.prog 154 #[.pointer (some ⟨g, 0, none⟩), .int .i64 n] W fun e w' => ∃ nv, ∃ d : DeedD, e = .returned (.agg #[nv, .int .i64 d.on, .int .i64 d.off, .int .i64 d.flip]) ∧ d.need.length ≤ 4 ∧ Dig d.need ∧ (-1 ≤ d.on ∧ d.on ≤ 200) ∧ (-1 ≤ d.off ∧ d.off ≤ 200) ∧ (-1 ≤ d.flip ∧ d.flip ≤ 200) ∧ St w w' (rRd w g (hi + 20) :: rInts nv d.need :: L) := by
 obtain ⟨r, hr⟩ : ∃ r, W.heap.size = r := ⟨_, rfl⟩
 have HS : Hid (St w (W.alloc (.cells #[.slice none 0 0, .int .i64 0, .int .i64 0, .int .i64 0] 144)) (rRd w g hi :: rBlk r 144 #[.slice none 0 0, .int .i64 0, .int .i64 0, .int .i64 0] :: L)) := Lib.hid (by rw [← hr]; exact S.alloc1 _ _)
 clear S
 go_enter Tryz.func154, Tryz.ntmps154
 go_wp2_with fail
 refine (l20Need_rd HS.out (by omega)).mono ?_
 rintro e w1 ⟨nv, xs, rfl, hxl, hxd, s1⟩
 obtain ⟨D, hD⟩ : ∃ D, w1.heap.size = D := ⟨_, rfl⟩
 obtain ⟨A1, c1, hnv, -⟩ := s1.rdI 1 rfl
 subst hnv
 obtain ⟨nv, hnv⟩ : ∃ nv, nv = Value.slice A1 xs.length c1 := ⟨_, rfl⟩
 have HXD := Lib.hid hxd
 have HS1 : Hid (St w (w1.alloc (.cells #[.slice A1 xs.length c1, .int .i64 0, .int .i64 0, .int .i64 0] 144)) (rRd w g (hi + 10) :: rInts nv xs :: rBlk D 144 #[nv, .int .i64 0, .int .i64 0, .int .i64 0] :: rBlk r 144 #[.slice none 0 0, .int .i64 0, .int .i64 0, .int .i64 0] :: L)) := Lib.hid (by
  rw [← hD, hnv]
  exact (((s1.alloc1 #[.slice A1 xs.length c1, .int .i64 0, .int .i64 0, .int .i64 0] 144).bring 2 rfl).bring 1 rfl).more (by omega))
 clear s1 hxd HS
 go_wp2
 try rw [hr]
 try rw [hD]
 clear hD hr
 go_loopw [6] (fun i wr => ∃ (k : Nat) (on off fl : Int), k ≤ 5 ∧ i = .int .i64 k ∧ (0 ≤ on ∧ on ≤ 32 * k) ∧ (0 ≤ off ∧ off ≤ 32 * k) ∧ (0 ≤ fl ∧ fl ≤ 32 * k) ∧ St w wr (rRd w g (hi + 10 + k) :: rInts nv xs :: rBlk D 144 #[nv, .int .i64 on, .int .i64 off, .int .i64 fl] :: rBlk r 144 #[.slice none 0 0, .int .i64 0, .int .i64 0, .int .i64 0] :: L)) (fun i _ => 5 - (intOf i).toNat)
 case atStart => exact ⟨0, 0, 0, 0, by omega, rfl, by omega, by omega, by omega, HS1.out⟩
 case round =>
  clear HS1
  obtain ⟨k, on, off, fl, hk, rfl, hon, hoff, hfl, S⟩ := hrel
  have HS := Lib.hid S
  clear S
  by_cases hlt : k < 5
  ·have hpw := wrap_pow k (by omega)
   have hp1 : (2 : Int) ^ k ≤ 32 := pow_le_int k 5 (by omega)
   have hp0 : (0 : Int) < 2 ^ k := Int.pow_pos (by omega)
   go_wp2_with fail
   refine (pick_rd HS.out (by omega) 6).mono ?_
   rintro e w2 ⟨x2, rfl, ⟨b1, b2, -⟩, s2⟩
   have b3 := b2 (by omega)
   have HS2 := Lib.hid s2
   clear s2 b2 HS
   by_cases h0 : x2 = 0
   ·subst h0
    have HW : Hid (IntKind.i64.wrap (on + 2 ^ k) = on + 2 ^ k) := Lib.hid (IntWalk.i64_in _ (by omega))
    have hw2 := HW.out
    have q1 : ∀ j, w2.cell? ⟨D, j, none⟩ = _ := HS2.out.cells 2 rfl
    have f1 := HS2.out.free 2 rfl
    have HS3 : Hid (St w (w2.drew.setCell ⟨D, 1, none⟩ (.int .i64 (on + 2 ^ k))) (rRd w g (hi + 10 + k + 1) :: rInts nv xs :: rBlk D 144 #[nv, .int .i64 (on + 2 ^ k), .int .i64 off, .int .i64 fl] :: rBlk r 144 #[.slice none 0 0, .int .i64 0, .int .i64 0, .int .i64 0] :: L)) := Lib.hid ((HS2.out.drew).set 2 rfl 1 _)
    go_wp2
    go_still_tail 6, (by kernel_rfl)
    change wpList _ _ _ _ _ w2.drew
    go_wp2
    go_roundw
    case rel => exact ⟨k + 1, on + 2 ^ k, off, fl, by omega, by go_num, by omega, by omega, by omega, HS3.out⟩
    case measure => simp [intOf]; omega
   have h0' : (x2 == 0) = false := by simpa using h0
   by_cases h1 : x2 = 1
   ·subst h1
    clear h0 h0'
    have HW : Hid (IntKind.i64.wrap (off + 2 ^ k) = off + 2 ^ k) := Lib.hid (IntWalk.i64_in _ (by omega))
    have hw2 := HW.out
    have q1 : ∀ j, w2.cell? ⟨D, j, none⟩ = _ := HS2.out.cells 2 rfl
    have f1 := HS2.out.free 2 rfl
    have HS3 : Hid (St w (w2.drew.setCell ⟨D, 2, none⟩ (.int .i64 (off + 2 ^ k))) (rRd w g (hi + 10 + k + 1) :: rInts nv xs :: rBlk D 144 #[nv, .int .i64 on, .int .i64 (off + 2 ^ k), .int .i64 fl] :: rBlk r 144 #[.slice none 0 0, .int .i64 0, .int .i64 0, .int .i64 0] :: L)) := Lib.hid ((HS2.out.drew).set 2 rfl 2 _)
    go_wp2
    go_still_tail 6, (by kernel_rfl)
    change wpList _ _ _ _ _ w2.drew
    go_wp2
    go_roundw
    case rel => exact ⟨k + 1, on, off + 2 ^ k, fl, by omega, by go_num, by omega, by omega, by omega, HS3.out⟩
    case measure => simp [intOf]; omega
   have h1' : (x2 == 1) = false := by simpa using h1
   by_cases h2 : x2 = 2
   ·subst h2
    clear h0 h0' h1 h1'
    have HW : Hid (IntKind.i64.wrap (fl + 2 ^ k) = fl + 2 ^ k) := Lib.hid (IntWalk.i64_in _ (by omega))
    have hw2 := HW.out
    have q1 : ∀ j, w2.cell? ⟨D, j, none⟩ = _ := HS2.out.cells 2 rfl
    have f1 := HS2.out.free 2 rfl
    have HS3 : Hid (St w (w2.drew.setCell ⟨D, 3, none⟩ (.int .i64 (fl + 2 ^ k))) (rRd w g (hi + 10 + k + 1) :: rInts nv xs :: rBlk D 144 #[nv, .int .i64 on, .int .i64 off, .int .i64 (fl + 2 ^ k)] :: rBlk r 144 #[.slice none 0 0, .int .i64 0, .int .i64 0, .int .i64 0] :: L)) := Lib.hid ((HS2.out.drew).set 2 rfl 3 _)
    go_wp2
    go_still_tail 6, (by kernel_rfl)
    change wpList _ _ _ _ _ w2.drew
    go_wp2
    go_roundw
    case rel => exact ⟨k + 1, on, off, fl + 2 ^ k, by omega, by go_num, by omega, by omega, by omega, HS3.out⟩
    case measure => simp [intOf]; omega
   have h2' : (x2 == 2) = false := by simpa using h2
   clear h0 h1 h2
   go_wp2
   go_roundw
   case rel => exact ⟨k + 1, on, off, fl, by omega, by go_num, by omega, by omega, by omega, HS2.out⟩
   case measure => simp [intOf]; omega
  ·have hk5 : k = 5 := by omega
   subst hk5
   clear hnv
   go_wp2_with fail
   refine (odd_rd HS.out (by omega) n).mono ?_
   rintro e w2 ⟨b2, rfl, s2⟩
   have HS2 := Lib.hid s2
   clear s2 HS
   go_upto_if 42 with (fail)
   go_cut [6] (fun s6 wx => ∃ (mv : Value) (ys : List Int) (a b c : Int), ys.length ≤ 4 ∧ Dig ys ∧ (-1 ≤ a ∧ a ≤ 200) ∧ (-1 ≤ b ∧ b ≤ 200) ∧ (-1 ≤ c ∧ c ≤ 200) ∧ St w wx (rRd w g (hi + 20) :: rInts mv ys :: rBlk D 144 #[mv, .int .i64 a, .int .i64 b, .int .i64 c] :: rBlk r 144 #[.slice none 0 0, .int .i64 0, .int .i64 0, .int .i64 0] :: L))
   case first =>
    cases b2 with
    | false =>
     have HS3 := Lib.hid (HS2.out.more (hi' := hi + 20) (by omega))
     go_wp2
     go_meet
     case rel => exact ⟨nv, xs, on, off, fl, hxl, HXD.out, by omega, by omega, by omega, HS3.out⟩
    | true =>
     go_wp2_with fail
     refine (pick_rd HS2.out (by omega) 4).mono ?_
     rintro e w3 ⟨x3, rfl, ⟨c1', c2, -⟩, s3⟩
     have c3 := c2 (by omega)
     have q3 : ∀ j, w3.cell? ⟨D, j, none⟩ = _ := s3.cells 2 rfl
     have f3 := s3.free 2 rfl
     have HS3 := Lib.hid (s3.more (hi' := hi + 20) (by omega))
     clear s3 c2
     by_cases h0 : x3 = 0
     ·subst h0
      have HS4 := Lib.hid ((((HS3.out.call1 (St.lit w3 [7] 1 rfl (by simp) (Dig.one (by omega) (by omega)).wf)).set 3 rfl 0 (.slice (some ⟨w3.heap.size, 0, none⟩) 1 1)).rid 2 rfl))
      have q4 : ∀ j, (w3.alloc (.cells #[.int .i64 7] 3)).cell? ⟨D, j, none⟩ = _ := (HS3.out.call1 (St.lit w3 [7] 1 rfl (by simp) (Dig.one (by omega) (by omega)).wf)).cells 3 rfl
      have f4 : ∀ j, (w3.alloc (.cells #[.int .i64 7] 3)).frozen? ⟨D, j, none⟩ = false := (HS3.out.call1 (St.lit w3 [7] 1 rfl (by simp) (Dig.one (by omega) (by omega)).wf)).free 3 rfl
      go_wp2
      go_meet
      case rel => exact ⟨_, [7], on, off, fl, by simp, Dig.one (by omega) (by omega), by omega, by omega, by omega, HS4.out⟩
     have h0' : (x3 == 0) = false := by simpa using h0
     by_cases h1 : x3 = 1
     ·subst h1
      clear h0 h0'
      have HS4 := Lib.hid (HS3.out.set 2 rfl 1 (.int .i64 32))
      go_wp2
      go_meet
      case rel => exact ⟨nv, xs, 32, off, fl, hxl, HXD.out, by omega, by omega, by omega, HS4.out⟩
     have h1' : (x3 == 1) = false := by simpa using h1
     by_cases h2 : x3 = 2
     ·subst h2
      clear h0 h0' h1 h1'
      have HS4 := Lib.hid (HS3.out.set 2 rfl 2 (.int .i64 (-1)))
      go_wp2
      go_meet
      case rel => exact ⟨nv, xs, on, -1, fl, hxl, HXD.out, by omega, by omega, by omega, HS4.out⟩
     have h2' : (x3 == 2) = false := by simpa using h2
     have HS4 := Lib.hid (((HS3.out.set 2 rfl 1 (.int .i64 1)).set 2 rfl 3 (.int .i64 1)).set 2 rfl 2 (.int .i64 0))
     clear h0 h1 h2
     go_wp2
     go_meet
     case rel => exact ⟨nv, xs, 1, 0, 1, hxl, HXD.out, by omega, by omega, by omega, HS4.out⟩
   case rest =>
    clear hon hoff hfl hk hlt
    obtain ⟨mv, ys, a, b, c, hy1, hy2, ha, hb, hc, SC⟩ := hcut
    obtain ⟨A9, c9, hmv, -⟩ := SC.rdI 1 rfl
    subst hmv
    have q5 : ∀ j, wc.cell? ⟨D, j, none⟩ = _ := SC.cells 2 rfl
    have r5 : ∀ j, wc.cell? ⟨r, j, none⟩ = _ := SC.cells 3 rfl
    have f5 := SC.free 3 rfl
    have HD := Lib.hid hy2
    have HS6 : Hid (St w ((((wc.setCell ⟨r, 0, none⟩ (.slice A9 ys.length c9)).setCell ⟨r, 1, none⟩ (.int .i64 a)).setCell ⟨r, 2, none⟩ (.int .i64 b)).setCell ⟨r, 3, none⟩ (.int .i64 c)) (rRd w g (hi + 20) :: rInts (.slice A9 ys.length c9) ys :: L)) := Lib.hid ((((((SC.set 3 rfl 0 (.slice A9 ys.length c9)).set 3 rfl 1 (.int .i64 a)).set 3 rfl 2 (.int .i64 b)).set 3 rfl 3 (.int .i64 c)).rid 2 rfl).rid 2 rfl)
    clear SC HS2 hy2
    go_wp2
    refine bodyPost_ret (v := .agg #[.slice A9 ys.length c9, .int .i64 a, .int .i64 b, .int .i64 c]) (by simp [results, Tryz.results154, go_sem, r5]) rfl ⟨_, ⟨ys, a, b, c⟩, rfl, hy1, HD.out, ha, hb, hc, HS6.out⟩
end Go.Proofs.YtkmcengmglgdeaaGreatDoor

/- A deed of a row of the call's own is read, and put in place of another; things under other numbers. -/
namespace Go.Proofs.YtkmcengmglgdeaaGreatDoor
set_option linter.unusedVariables false
set_option linter.unusedSimpArgs false
open Go.ChangeShapes Go.WideShapes Go.ChangeAt Go.RowKit

/-- the same things under other numbers, or some of them -/
theorem Sn.re {w W : World} {M M' : Nat → Option HRes} (h : Sn w W M) (f : Nat → Nat) (e : ∀ i, M' i = none ∨ M' i = M (f i)) (inj : ∀ i j, M' i ≠ none → M' j ≠ none → f i = f j → i = j) : Sn w W M' := by
 obtain ⟨F, h1, h2⟩ := h.has
 refine ⟨h.below, fun i => F (f i), fun i R hR => ?_, fun i j hne hi hj => ?_⟩
 ·rcases e i with h | h
  ·rw [h] at hR; cases hR
  ·exact h1 (f i) R (by rw [← h]; exact hR)
 ·have ei : M (f i) ≠ none := by
   rcases e i with h | h
   ·exact absurd h hi
   ·rw [← h]; exact hi
  have ej : M (f j) ≠ none := by
   rcases e j with h | h
   ·exact absurd h hj
   ·rw [← h]; exact hj
  exact h2 (f i) (f j) (fun hf => hne (inj i j hi hj hf)) ei ej
section
variable {w W W' : World} {L : List HRes}
theorem St.deedAt (h : St w W L) (i : Nat) {v : Value} {ds : List DeedD} (hi : L[i]? = some (rDeeds v ds)) {k : Nat} (hk : k < ds.length) :
  ∃ g c d A n' c', v = .slice (some ⟨g, 0, none⟩) ds.length c ∧ ds.length ≤ c ∧ c ≤ maxLen ∧ ds[k]? = some d ∧ W.cell? ⟨g, k * 4, none⟩ = some (.slice A n' c') ∧ W.cell? ⟨g, k * 4 + 1, none⟩ = some (.int .i64 d.on) ∧ W.cell? ⟨g, k * 4 + 2, none⟩ = some (.int .i64 d.off) ∧ W.cell? ⟨g, k * 4 + 3, none⟩ = some (.int .i64 d.flip) ∧
   (∀ j, W.frozen? ⟨g, j, none⟩ = false) ∧ ((Lit.int .i64 d.on).wf = true ∧ (Lit.int .i64 d.off).wf = true ∧ (Lit.int .i64 d.flip).wf = true) ∧ n' = d.need.length := by
 obtain ⟨F, ⟨cells, Fs, h1, -⟩, -⟩ := h.get i hi
 obtain ⟨g, c, hv, hg, hcap, hmax⟩ := own_some h1.row (by omega)
 subst hv
 have hcl : cells.length = ds.length * 4 := h1.row.1
 obtain ⟨nv, q0, q1, q2, q3, q4, -, q5⟩ := h1.deed k _ _ (List.getElem?_eq_getElem hk) (List.getElem?_eq_getElem (show k < Fs.length by rw [h1.flen]; exact hk))
 obtain ⟨A, c', hn, -⟩ := q4.rd
 subst hn
 exact ⟨g, c, ds[k], A, _, c', rfl, hcap, hmax, List.getElem?_eq_getElem hk, (h1.row.cellAt (k * 4) (by omega)).trans q0, (h1.row.cellAt (k * 4 + 1) (by omega)).trans q1, (h1.row.cellAt (k * 4 + 2) (by omega)).trans q2, (h1.row.cellAt (k * 4 + 3) (by omega)).trans q3, fun j => h1.row.frozenAt j, q5, rfl⟩
theorem OwnDs.put {nv : Value} {ds : List DeedD} {F G : List Nat} {cells : List Value} {Fs : List (List Nat)} {d : DeedD} {g n c i : Nat} (h : OwnDs W 0 (.slice (some ⟨g, 0, none⟩) n c) ds F cells Fs) (hn : ds.length = n) (hF : F.Nodup) (ho : OwnI W 0 nv d.need G) (hdis : ∀ b ∈ F, b ∉ G)
  (hi : i < n) (hs : d.need.length ≤ 1048576) (hwf : (Lit.int .i64 d.on).wf = true ∧ (Lit.int .i64 d.off).wf = true ∧ (Lit.int .i64 d.flip).wf = true) :
  ∃ F', (∃ cells Fs, OwnDs ((((W.setCell ⟨g, i * 4, none⟩ nv).setCell ⟨g, i * 4 + 1, none⟩ (.int .i64 d.on)).setCell ⟨g, i * 4 + 2, none⟩ (.int .i64 d.off)).setCell ⟨g, i * 4 + 3, none⟩ (.int .i64 d.flip)) 0 (.slice (some ⟨g, 0, none⟩) n c) (ds.set i d) F' cells Fs ∧ F'.Nodup) ∧ (∀ b ∈ F', b ∈ F ∨ b ∈ G ∨ W.heap.size ≤ b) ∧
   Only F W ((((W.setCell ⟨g, i * 4, none⟩ nv).setCell ⟨g, i * 4 + 1, none⟩ (.int .i64 d.on)).setCell ⟨g, i * 4 + 2, none⟩ (.int .i64 d.off)).setCell ⟨g, i * 4 + 3, none⟩ (.int .i64 d.flip)) := by
 subst hn
 have hrow := h.row
 have hcl : cells.length = ds.length * 4 := hrow.1
 have hfl := h.flen
 have hft : F = g :: Fs.flatten := h.foot
 have hgF : g ∈ F := by rw [hft]; simp
 have hnd : (g :: Fs.flatten).Nodup := hft ▸ hF
 have hgn : g ∉ Fs.flatten := (List.nodup_cons.1 hnd).1
 have ho4 := (((hrow.stored (i * 4) nv).1.stored (i * 4 + 1) (.int .i64 d.on)).1.stored (i * 4 + 2) (.int .i64 d.off)).1.stored (i * 4 + 3) (.int .i64 d.flip)
 have hon : Only [g] W ((((W.setCell ⟨g, i * 4, none⟩ nv).setCell ⟨g, i * 4 + 1, none⟩ (.int .i64 d.on)).setCell ⟨g, i * 4 + 2, none⟩ (.int .i64 d.off)).setCell ⟨g, i * 4 + 3, none⟩ (.int .i64 d.flip)) :=
  ((((Only.refl [g] W).set (by simp) nv).set (by simp) (.int .i64 d.on)).set (by simp) (.int .i64 d.off)).set (by simp) (.int .i64 d.flip)
 generalize ((((W.setCell ⟨g, i * 4, none⟩ nv).setCell ⟨g, i * 4 + 1, none⟩ (.int .i64 d.on)).setCell ⟨g, i * 4 + 2, none⟩ (.int .i64 d.off)).setCell ⟨g, i * 4 + 3, none⟩ (.int .i64 d.flip)) = W2 at ho4 hon ⊢
 have hkeep : ∀ b, b ∈ Fs.flatten ∨ b ∈ G → W2.heap[b]? = W.heap[b]? := fun b hb => by
  refine hon.block b ?_ (fun hm => ?_)
  ·rcases hb with hb | hb
   ·exact (h.lt b (by rw [hft]; exact List.mem_cons_of_mem _ hb)).2
   ·exact (ho.lt b hb).2
  ·rw [List.mem_singleton] at hm
   subst hm
   rcases hb with hb | hb
   ·exact hgn hb
   ·exact hdis b hgF hb
 have hset : (Fs.set i G).length = Fs.length := by simp
 have hmem : ∀ b, b ∈ (Fs.set i G).flatten → b ∈ Fs.flatten ∨ b ∈ G := fun b hb => by
  obtain ⟨K, hK, hb⟩ := List.mem_flatten.1 hb
  rcases List.mem_or_eq_of_mem_set hK with hK | hK
  ·exact .inl (List.mem_flatten.2 ⟨K, hK, hb⟩)
  ·exact .inr (hK ▸ hb)
 refine ⟨g :: (Fs.set i G).flatten, ⟨_, Fs.set i G, ⟨by rw [List.length_set]; exact ho4.1, by simpa using h.small, by simpa using hfl, rfl, fun j e Fj he hFj => ?_⟩, ?_⟩, fun b hb => ?_, hon.sub fun x hx => by rw [List.mem_singleton] at hx; rw [hx]; exact hgF⟩
 ·by_cases hij : i = j
  ·subst hij
   rw [List.getElem?_set_self hi] at he
   injection he with he
   subst he
   rw [List.getElem?_set_self (by omega)] at hFj
   injection hFj with hFj
   subst hFj
   refine ⟨nv, ?_, ?_, ?_, ?_, ho.keep fun b hb => hkeep b (.inr hb), hs, hwf⟩
   ·rw [List.getElem?_set_ne (by omega), List.getElem?_set_ne (by omega), List.getElem?_set_ne (by omega), List.getElem?_set_self (by omega)]
   ·rw [List.getElem?_set_ne (by omega), List.getElem?_set_ne (by omega), List.getElem?_set_self (by simp; omega)]
   ·rw [List.getElem?_set_ne (by omega), List.getElem?_set_self (by simp; omega)]
   ·rw [List.getElem?_set_self (by simp; omega)]
  ·rw [List.getElem?_set_ne hij] at he hFj
   obtain ⟨nv', q0, q1, q2, q3, q4, r⟩ := h.deed j e Fj he hFj
   refine ⟨nv', ?_, ?_, ?_, ?_, q4.keep fun b hb => hkeep b (.inl (mem_flat hFj hb)), r⟩
   ·rw [List.getElem?_set_ne (by omega), List.getElem?_set_ne (by omega), List.getElem?_set_ne (by omega), List.getElem?_set_ne (by omega)]; exact q0
   ·rw [List.getElem?_set_ne (by omega), List.getElem?_set_ne (by omega), List.getElem?_set_ne (by omega), List.getElem?_set_ne (by omega)]; exact q1
   ·rw [List.getElem?_set_ne (by omega), List.getElem?_set_ne (by omega), List.getElem?_set_ne (by omega), List.getElem?_set_ne (by omega)]; exact q2
   ·rw [List.getElem?_set_ne (by omega), List.getElem?_set_ne (by omega), List.getElem?_set_ne (by omega), List.getElem?_set_ne (by omega)]; exact q3
 ·rw [List.nodup_cons]
  refine ⟨fun hb => ?_, flat_nodup (fun j K hK => ?_) fun j l K H hne hK hH => ?_⟩
  ·rcases hmem g hb with hb | hb
   ·exact hgn hb
   ·exact hdis g hgF hb
  ·by_cases hij : i = j
   ·subst hij
    rw [List.getElem?_set_self (by omega)] at hK
    injection hK with hK
    rw [← hK]; exact ho.nodup
   ·rw [List.getElem?_set_ne hij] at hK
    exact (List.pairwise_flatten.1 (List.nodup_cons.1 hnd).2).1 K (List.mem_of_getElem? hK)
  ·have hap := fun (j l : Nat) (K H : List Nat) hne hK hH => flat_apart (i := j) (j := l) (F := K) (G := H) (List.nodup_cons.1 hnd).2 hK hH hne
   by_cases hij : i = j
   ·subst hij
    rw [List.getElem?_set_self (by omega)] at hK
    injection hK with hK
    rw [List.getElem?_set_ne (by omega)] at hH
    rw [← hK]
    exact fun b hb hb' => hdis b (by rw [hft]; exact List.mem_cons_of_mem _ (mem_flat hH hb')) hb
   ·rw [List.getElem?_set_ne hij] at hK
    by_cases hil : i = l
    ·subst hil
     rw [List.getElem?_set_self (by omega)] at hH
     injection hH with hH
     rw [← hH]
     exact fun b hb hb' => hdis b (by rw [hft]; exact List.mem_cons_of_mem _ (mem_flat hK hb)) hb'
    ·rw [List.getElem?_set_ne hil] at hH
     exact hap j l K H hne hK hH
 ·rcases List.mem_cons.1 hb with hb | hb
  ·exact .inl (hb ▸ hgF)
  ·rcases hmem b hb with hb | hb
   ·exact .inl (by rw [hft]; exact List.mem_cons_of_mem _ hb)
   ·exact .inr (.inl hb)
theorem St.putD {nv : Value} {ds : List DeedD} {d : DeedD} {g n c i : Nat} (h : St w W (rDeeds (.slice (some ⟨g, 0, none⟩) n c) ds :: rInts nv d.need :: L)) (hn : ds.length = n) (hi : i < n) (hs : d.need.length ≤ 1048576)
  (hwf : (Lit.int .i64 d.on).wf = true ∧ (Lit.int .i64 d.off).wf = true ∧ (Lit.int .i64 d.flip).wf = true) :
  St w ((((W.setCell ⟨g, i * 4, none⟩ nv).setCell ⟨g, i * 4 + 1, none⟩ (.int .i64 d.on)).setCell ⟨g, i * 4 + 2, none⟩ (.int .i64 d.off)).setCell ⟨g, i * 4 + 3, none⟩ (.int .i64 d.flip)) (rDeeds (.slice (some ⟨g, 0, none⟩) n c) (ds.set i d) :: L) :=
 drop2_st ((Sn.of_st h).merge 0 1 (by decide) rfl rfl fun F G ⟨cs, Fs, h1, h2⟩ g1 hdis hlo => OwnDs.put h1 hn h2 g1 hdis hi hs hwf) rfl fun i => rfl
end
end Go.Proofs.YtkmcengmglgdeaaGreatDoor
