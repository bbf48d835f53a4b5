/- The draw of a plan (DrawPressesOf): at most 41 numbers. -/
import Derived.Test.YtiebemnoegfoeaaDraw
import Derived.Test.YtiebemnoegfoeaaPress
import Derived.Test.YtiebemnoegfoeaaAlive
namespace Go.Proofs.Ytiebemnoegfoeaa
open Go.ChangeShapes Go.WideShapes Go.ChangeAt Go.RowKit

theorem Rdr.grown {w w' : World} {base g p : Nat} (h : Rdr w base g p) {row : Option Nat} (hg : w.grownBy w' row) (hr : ∀ k, row = some k → base ≤ k ∧ k ≠ g) (hb : base ≤ w.heap.size) : Rdr w' base g p := by
  obtain ⟨h1, h2, A, n, c, xs, hn, hi, hk⟩ := h
  refine ⟨h1, h2, A, n, c, xs, hn, hi.keep fun b o hlt => World.cell?_of_block (hg.block b (by omega) (fun e => by have := (hr b e.symm).1; omega)), hk.grown hg (fun e => by have := (hr g e.symm).2; omega)⟩
theorem Rdr.below {w w' : World} {base g p : Nat} (h : Rdr w base g p) {B : Nat} (hb : Below B w w') (hg : g < B) (hB : base ≤ B) : Rdr w' base g p := by
  obtain ⟨h1, h2, A, n, c, xs, hn, hi, hk⟩ := h
  exact ⟨h1, h2, A, n, c, xs, hn, hi.below (hb.mono hB), hk.below hb hg⟩
theorem Rdr.alloc {w : World} {base g p : Nat} (h : Rdr w base g p) (o : Obj) (hb : base ≤ w.heap.size) : Rdr (w.alloc o) base g p :=
  h.grown (World.grownBy_alloc w o none) (by simp) hb
theorem Rdr.lt {w : World} {base g p : Nat} (h : Rdr w base g p) : g < w.heap.size := by obtain ⟨_, _, _, _, _, _, _, _, hk⟩ := h; exact hk.lt

theorem drawPressesOf (A : Option Addr) (n c : Nat) (xs : List Int) (w : World) (h : RdI .u8 w w.heap.size A n c xs) :
    Calls Try.prog 30 #[.slice A n c] w fun e w' => (∃ v m ys, e = .returned v ∧ w'.ownsRow w.heap.size 3 1 v m (ints ys) ∧ m ≤ 41 ∧ (∀ y ∈ ys, 0 ≤ y ∧ y < 10)) ∧ Below w.heap.size w w' := by
  go_enter Try.func30, Try.ntmps30
  go_wp2_with fail
  refine (l20Open_any A n c xs _ h).mono ?_
  rintro e w1 ⟨rfl, hb, hr, hs⟩
  have hsz : w.heap.size + 1 ≤ w1.heap.size := by omega
  clear hs
  have ho := World.ownsRow_lit (base := w.heap.size + 1) (e := 3) (size := 1) w1 #[] 0 hsz (by unfold maxLen; omega) rfl
  have hr' := hr.alloc (Obj.cells #[] 3) (by omega)
  go_wp2_with fail
  refine (pick_any _ _ 0 12 _ hr' (by omega)).mono ?_
  rintro e w2 ⟨⟨x, rfl, hx0, hx1, -⟩, hg, hr2⟩
  have hx2 := hx1 (by omega)
  obtain ⟨j, rfl⟩ := Int.eq_ofNat_of_zero_le hx0
  have ho2 := ho.kept hg (by right; simp [Value.ownBlock]; omega)
  have hb2 : Below w.heap.size w w2 := (hb.alloc hb.size _).grown hg (by simp; omega) (fun k hk => by cases hk; omega)
  clear hx1 hr' ho hr
  go_wp2_with fail
  go_loopw [5, 4] (fun k v wr => ∃ (j p m : Nat) (ys : List Int), k = .int .i64 j ∧ p + 2 * j ≤ 40 ∧ m + j ≤ 12 ∧ Rdr wr w.heap.size w.heap.size p ∧ wr.ownsRow (w.heap.size + 1) 3 1 v m (ints ys) ∧ Hid (∀ y ∈ ys, 0 ≤ y ∧ y < 10) ∧ Below w.heap.size w wr) (fun k _ _ => (intOf k).toNat)
  case atStart => exact ⟨j, 1, 0, [], rfl, by omega, by omega, hr2, ho2, Lib.hid (by simp), hb2⟩
  case round =>
    obtain ⟨j, p, m, ys, rfl, hp, hmj, hr, hown, hys, hbel⟩ := hrel
    have hlt := hr.lt
    by_cases hj : 0 < j
    · go_wp2_with fail
      refine (pick_any _ _ p 5 _ hr (by omega)).mono ?_
      rintro e w3 ⟨⟨x, rfl, x0, x1, -⟩, hg3, hr3⟩
      have x2 := x1 (by omega)
      have hown3 := own_kept hown hg3 (by omega)
      have hb3 := hbel.grown hg3 hbel.size (fun k hk => by cases hk; omega)
      clear x1
      go_wp2_with fail
      refine (pick_any _ _ (p + 1) 60 _ hr3 (by omega)).mono ?_
      rintro e w4 ⟨⟨y, rfl, y0, y1, -⟩, hg4, hr4⟩
      have y2 := y1 (by omega)
      have hown4 := own_kept hown3 hg4 (by omega)
      have hb4 := hb3.grown hg4 hb3.size (fun k hk => by cases hk; omega)
      have hlt4 := hr4.lt
      clear y1
      go_wp2_with (at_builtin; refine wp_app elInt rfl _ _ rfl (w.heap.size + 1) u4 m (ints ys) rfl (hown4.alloc _) _ _ 1 1 [.int .i64 (x + y / 59 * 5)] rfl (RdRow.new w4 [.int .i64 (x + y / 59 * 5)] 3 1 1 rfl (by unfold maxLen; omega)) (by simp [Value.oneCell']) (by omega) (by omega) (by simp; omega) ?_; intro v5 w5 hown5 hg5 hat5)
      have hr5 : Rdr w5 w.heap.size w.heap.size (p + 1 + 1) := (hr4.alloc _ (by omega)).grown hg5 (fun k hk => by have := (hown4.lt k hk).1; omega) (by simp; omega)
      have hb5 : Below w.heap.size w w5 := (hb4.alloc hb4.size _).grown hg5 (by simp; omega) (fun k hk => by have := (hown4.lt k hk).1; omega)
      go_wp2
      go_roundw
      case rel => exact ⟨j - 1, p + 1 + 1, m + 1, ys ++ [x + y / 59 * 5], by rw [show ((j - 1 : Nat) : Int) = (j : Int) - 1 by omega], by omega, by omega, hr5, by rw [ints_append]; exact hown5, Lib.hid (fun z hz => by
        rcases List.mem_append.1 hz with h1 | h1
        · exact hys.out z h1
        · obtain rfl := List.mem_singleton.1 h1
          omega), hb5⟩
      case measure => simp [intOf]; omega
    · go_wp2_with fail
      refine (odd_any _ _ p 30 _ hr (by omega)).mono ?_
      rintro e w3 ⟨⟨b, rfl⟩, hg3, hr3⟩
      have hown3 := own_kept hown hg3 (by omega)
      have hb3 := hbel.grown hg3 hbel.size (fun k hk => by cases hk; omega)
      have hmk : ∀ W, (Instr.makeSlice 25 (.int .i64 41) (.int .i64 41)).run Try.prog W = .ok (.slice (some ⟨W.heap.size, 0, none⟩) 41 41) (W.alloc (.cells (Array.replicate 41 (.int .i64 0)) 3)) := fun _ => by kernel_rfl
      cases b
      · go_wp2
        go_ret
        exact ⟨⟨u4, m, ys, rfl, own_mono hown3 (by omega), by omega, hys.out⟩, hb3⟩
      · go_wp2
        go_ret
        exact ⟨⟨_, 41, List.replicate 41 0, rfl, World.ownsRow_lit w3 _ 41 hb3.size (by unfold maxLen; omega) rfl, by omega, by simp⟩, hb3.alloc hb3.size _⟩

theorem foldl_xor (f : Int → Nat) (xs : List Int) (a : Nat) : xs.foldl (fun s x => s ^^^ f x) a = a ^^^ xs.foldl (fun s x => s ^^^ f x) 0 := by
  induction xs generalizing a with
  | nil => simp
  | cons x xs ih => simp only [List.foldl_cons]; rw [ih (a ^^^ f x), ih (0 ^^^ f x)]; simp [Nat.xor_assoc]
theorem foldP_all (xs : List Int) : foldP xs xs.length = xs.foldl (fun s x => s ^^^ 2 ^ x.toNat) 0 := by unfold foldP; rw [List.take_length]
theorem foldl_xor_append (f : Int → Nat) (xs ys : List Int) : (xs ++ ys).foldl (fun s x => s ^^^ f x) 0 = xs.foldl (fun s x => s ^^^ f x) 0 ^^^ ys.foldl (fun s x => s ^^^ f x) 0 := by
  rw [List.foldl_append, foldl_xor]
theorem foldl_xor_reverse (f : Int → Nat) (xs : List Int) : xs.reverse.foldl (fun s x => s ^^^ f x) 0 = xs.foldl (fun s x => s ^^^ f x) 0 := by
  induction xs with
  | nil => rfl
  | cons x xs ih => rw [List.reverse_cons, foldl_xor_append, ih]; simp only [List.foldl_cons, List.foldl_nil]; rw [foldl_xor f xs (0 ^^^ f x)]; simp [Nat.xor_comm]
theorem pressesOf_reverse (xs : List Int) : pressesOf xs.reverse = pressesOf xs := by
  unfold pressesOf
  rw [foldP_all, foldP_all, foldl_xor_reverse]
  simp
theorem pressesOf_pos (xs : List Int) (h : 0 ≤ pressesOf xs) : xs.length ≤ 40 ∧ (∀ x ∈ xs, 0 ≤ x ∧ x < 5) ∧ pressesOf xs < 32 := by
  unfold pressesOf at *
  split at h
  · rename_i hc
    refine ⟨hc.1, hc.2, ?_⟩
    rw [if_pos hc]
    suffices ∀ k, foldP xs k < 32 by have := this xs.length; omega
    intro k
    induction k with
    | zero => simp [foldP]
    | succ k ih =>
      rcases Nat.lt_or_ge k xs.length with h1 | h1
      · rw [foldP_step xs k xs[k] (List.getElem?_eq_getElem h1)]
        have hr := hc.2 xs[k] (List.getElem_mem h1)
        exact xor32 _ _ ih (pow5 _ hr.1 hr.2).1
      · have : foldP xs (k + 1) = foldP xs k := by unfold foldP; rw [List.take_of_length_le (by omega), List.take_of_length_le h1]
        rw [this]; exact ih
  · omega
theorem pressesOf_twice (xs : List Int) (h : 0 ≤ pressesOf xs) (h2 : xs.length + xs.length ≤ 40) : pressesOf (xs ++ xs) = 0 := by
  obtain ⟨_, hr, _⟩ := pressesOf_pos xs h
  unfold pressesOf
  rw [if_pos ⟨by simp; omega, fun x hx => by rcases List.mem_append.1 hx with h | h <;> exact hr x h⟩, foldP_all, foldl_xor_append]
  simp

theorem wfI_of {ys : List Int} (h : ∀ y ∈ ys, 0 ≤ y ∧ y < 10) : ∀ y ∈ ys, (Lit.int .i64 y).wf = true := fun y hy => wf_i64_mk (by have := h y hy; omega)
theorem FnPressesOf_walk (A : Option Addr) (n c : Nat) (xs : List Int) (w : World) (h : RdI .u8 w w.heap.size A n c xs) :
    Calls Try.prog 9 #[.slice A n c] w fun e w' => e = .returned (.bool true) ∧ Below w.heap.size w w' := by
  have hcap := h.cap
  have hmax := h.capMax
  unfold maxLen at hmax
  by_cases hn : n ≤ 1048576
  · go_enter Try.func9, Try.ntmps9
    go_wp2_with fail
    refine (drawPressesOf A n c xs _ h).mono ?_
    rintro e w1 ⟨⟨v, m, ys, rfl, ho, hm41, hys⟩, hb⟩
    obtain ⟨B, cc, rfl⟩ := own_form ho
    have hwf := wfI_of hys
    have hrd := rdI_own ho hwf
    have hylen := hrd.len
    have HYL := Lib.hid hylen
    have HYS := Lib.hid hys
    clear hys hylen
    by_cases hp : 0 ≤ pressesOf ys
    · have hpp := pressesOf_pos ys hp
      obtain ⟨hp1, -, hp3⟩ := hpp
      have hm40 : m ≤ 40 := by rw [← HYL.out]; exact hp1
      have HREV := Lib.hid (pressesOf_reverse ys)
      have HTW := Lib.hid (pressesOf_twice ys hp)
      clear hp1
      go_wp2_with fail
      refine (pressesOf_impl B m cc ys _ hrd).mono ?_
      rintro e w' ⟨rfl, rfl⟩
      go_wp2_with fail
      refine (pressesOf_spec B m cc ys _ hrd).mono ?_
      rintro e w' ⟨rfl, rfl⟩
      have hol : (w1.alloc (.cells #[] 3)).ownsRow w1.heap.size 3 1 (.slice (some ⟨w1.heap.size, 0, none⟩) 0 0) 0 [] := World.ownsRow_lit w1 #[] 0 (Nat.le_refl _) (by unfold maxLen; omega) rfl
      have hra : RdI .i64 (w1.alloc (.cells #[] 3)) w1.heap.size B m cc ys := hrd.below ((Below.refl _ _).alloc (Nat.le_refl _) _)
      go_wp2_with (first
        | (at_builtin; refine wp_app elInt rfl (.tmp 26) (.tmp 27) rfl w1.heap.size _ 0 [] rfl hol w1.heap.size B m cc (ints ys) rfl hra.row (ints_cell _) (by omega) (by omega) (by simp) ?_; intro v2 w2 hown2 hg2 hat2)
        | (at_builtin; refine wp_app elInt rfl (.tmp 28) (.tmp 29) rfl w1.heap.size v2 (0 + m) ([] ++ ints ys) rfl hown2 w1.heap.size B m cc (ints ys) rfl (hra.below ((Below.refl _ _).grown hg2 (by simp) (fun k hk => by have := (hol.lt k hk).1; omega))).row (ints_cell _) (by omega) (by omega) (by have := hg2.size; simp at this; omega) ?_; intro v3 w3 hown3 hg3 hat3))
      obtain ⟨C, c3, rfl⟩ := own_form hown3
      simp only [Nat.zero_add, List.nil_append, ← ints_append] at hown3
      have hs2 : w1.heap.size ≤ w2.heap.size := by have := hg2.size; simp at this; omega
      have hs3 : w2.heap.size ≤ w3.heap.size := hg3.size
      have hb2 : Below w1.heap.size w1 w2 := ((Below.refl _ _).alloc (Nat.le_refl _) (.cells #[] 3)).grown hg2 (by simp) (fun k hk => by have := (hol.lt k hk).1; omega)
      have hb3 : Below w1.heap.size w1 w3 := hb2.grown hg3 hb2.size (fun k hk => by have := (hown2.lt k hk).1; omega)
      have hrd3 := hrd.below hb3
      have hrt := rdI_own hown3 (xs := ys ++ ys) (fun y hy => by rcases List.mem_append.1 hy with h | h <;> exact hwf y h)
      have hob := World.ownsRow_lit (base := w3.heap.size) (e := 3) (size := 1) w3 #[] 0 (Nat.le_refl _) (by unfold maxLen; omega) rfl
      have HPRE : Hid (Below w.heap.size w w3) := Lib.hid (hb.trans (hb3.mono hb.size))
      clear hown2 hg2 hat2 hg3 hat3 hol hra hown3 hb2
      go_loopw [7, 6] (fun k v wr => ∃ j : Nat, j ≤ m ∧ k = .int .i64 ((m : Int) - 1 - j) ∧ wr.ownsRow w3.heap.size 3 1 v j (ints (ys.drop (m - j)).reverse) ∧ Below w3.heap.size w3 wr) (fun k _ _ => (intOf k + 1).toNat)
      case atStart => exact ⟨0, by omega, by simp, by rw [Nat.sub_zero, ← HYL.out, List.drop_length]; exact hob, (Below.refl _ _).alloc (Nat.le_refl _) _⟩
      case round =>
        obtain ⟨j, hj, rfl, hown, hbel⟩ := hrel
        by_cases hlt : j < m
        · obtain ⟨b, off, x, rfl, hbb, hx, hw, hcx⟩ := hrd3.get (show m - 1 - j < m by omega)
          have hcr : wr.cell? ⟨b, off + (m - 1 - j), none⟩ = some (.int .i64 x) := (bcells hbel b _ (by omega)).trans hcx
          have HX : Hid ((ys.drop (m - (j + 1))).reverse = (ys.drop (m - j)).reverse ++ [x]) := Lib.hid (by
            have e1 : m - (j + 1) = m - 1 - j := by omega
            have e2 : m - j = m - 1 - j + 1 := by omega
            rw [e1, e2]
            have hl := (List.getElem?_eq_some_iff.1 hx)
            obtain ⟨h1, h2⟩ := hl
            rw [List.drop_eq_getElem_cons h1, List.reverse_cons, h2])
          have hix : ((m : Int) - 1 - (j : Int)) = ((m - 1 - j : Nat) : Int) := by omega
          rw [hix]
          have hsz := hbel.size
          clear hx hcx hix
          go_wp2_with (at_builtin; refine wp_app elInt rfl _ _ rfl w3.heap.size u6 j _ rfl (hown.alloc _) _ _ 1 1 [.int .i64 x] rfl (RdRow.new wr [.int .i64 x] 3 1 1 rfl (by unfold maxLen; omega)) (by simp [Value.oneCell']) (by omega) (by omega) (by simp; omega) ?_; intro v5 w5 hown5 hg5 hat5)
          have hb5 : Below w3.heap.size w3 w5 := (hbel.alloc hbel.size _).grown hg5 (by simp; omega) (fun k hk => by have := (hown.lt k hk).1; omega)
          go_wp2
          go_roundw
          case rel => exact ⟨j + 1, by omega, by rw [show (((m - 1 - j : Nat) : Int) - 1) = (m : Int) - 1 - ((j + 1 : Nat) : Int) by omega], by rw [HX.out, ints_append]; exact hown5, hb5⟩
          case measure => simp [intOf]; omega
        · have hjm : j = m := by omega
          subst hjm
          obtain ⟨D, c4, rfl⟩ := own_form hown
          rw [Nat.sub_self, List.drop_zero] at hown
          have hrb := rdI_own hown (xs := ys.reverse) (fun y hy => hwf y (List.mem_reverse.1 hy))
          have hrt' := (hrt.below hbel).more hbel.size
          by_cases h40 : j + j ≤ 40
          · have HT := Lib.hid (HTW.out (by rw [HYL.out]; exact h40))
            go_wp2_with fail
            refine (pressesOf_impl D j c4 _ _ hrb).mono ?_
            rintro e w' ⟨rfl, rfl⟩
            rw [HREV.out]
            go_wp2_with fail
            refine (pressesOf_impl C (j + j) c3 _ _ hrt').mono ?_
            rintro e w' ⟨rfl, rfl⟩
            rw [HT.out]
            go_wp2
            go_ret
            exact ⟨rfl, HPRE.out.trans (hbel.mono HPRE.out.size)⟩
          · go_wp2_with fail
            refine (pressesOf_impl D j c4 _ _ hrb).mono ?_
            rintro e w' ⟨rfl, rfl⟩
            rw [HREV.out]
            go_wp2
            go_ret
            exact ⟨rfl, HPRE.out.trans (hbel.mono HPRE.out.size)⟩
    · have hneg : pressesOf ys = -1 := by unfold pressesOf at *; split at hp
                                          · omega
                                          · rw [if_neg (by assumption)]
      go_wp2_with fail
      refine (pressesOf_impl B m cc ys _ hrd).mono ?_
      rintro e w' ⟨rfl, rfl⟩
      go_wp2_with fail
      refine (pressesOf_spec B m cc ys _ hrd).mono ?_
      rintro e w' ⟨rfl, rfl⟩
      go_wp2_with fail
      refine (alive_any _).mono ?_
      rintro e w' ⟨rfl, hb2⟩
      go_wp2
      go_ret
      exact ⟨rfl, hb.trans (hb2.mono hb.size)⟩
  · go_enter Try.func9, Try.ntmps9
    go_wp2
    go_ret
    exact ⟨rfl, Below.refl _ _⟩
end Go.Proofs.Ytiebemnoegfoeaa
