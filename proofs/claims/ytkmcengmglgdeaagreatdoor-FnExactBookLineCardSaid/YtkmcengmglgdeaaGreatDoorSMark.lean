/- Joined texts: Mark, Mark2, App, Turn, TTask. -/
import Derived.Test.YtkmcengmglgdeaaGreatDoorSDeed
import Derived.Test.YtkmcengmglgdeaaGreatDoorSNum
import Derived.Test.YtkmcengmglgdeaaGreatDoorSSz
import Derived.Deep.RegionLaw
import Derived.Deep.RegionHeld3
import Derived.Deep.DeepCutAuto

namespace Go.Proofs.YtkmcengmglgdeaaGreatDoor
set_option linter.unusedVariables false
set_option linter.unusedSimpArgs false
set_option maxRecDepth 100000
set_option maxHeartbeats 8000000
open Go.ChangeShapes Go.WideShapes Go.ChangeAt Go.RowKit
def marks (k n : Nat) : List Int := (List.range n).map fun i => ((k + i : Nat) : Int)
@[simp] theorem marks_len (k n : Nat) : (marks k n).length = n := by simp [marks]
theorem marks_get (k n i : Nat) (h : i < n) : (marks k n)[i]? = some ((k + i : Nat) : Int) := by unfold marks; rw [List.getElem?_map, List.getElem?_range h]; rfl
theorem marks_wf (k n : Nat) (hk : k + n ≤ 9223372036854775807) : ∀ x ∈ marks k n, (Lit.int .i64 x).wf = true := by
 intro x hx
 unfold marks at hx
 obtain ⟨i, hi, rfl⟩ := List.mem_map.1 hx
 have := List.mem_range.1 hi
 exact wf_i64_mk (by omega)
def mixI (k : Nat) (xs : List Int) (i : Nat) : List Int := marks k i ++ xs.drop i
theorem mixI_len (k : Nat) (xs : List Int) (i : Nat) (h : i ≤ xs.length) : (mixI k xs i).length = xs.length := by simp [mixI]; omega
theorem mixI_zero (k : Nat) (xs : List Int) : mixI k xs 0 = xs := by simp [mixI, marks]
theorem mixI_done (k : Nat) (xs : List Int) : mixI k xs xs.length = marks k xs.length := by simp [mixI]
theorem mixI_step (k : Nat) (xs : List Int) (i : Nat) (h : i < xs.length) : (mixI k xs i).set i ((k + i : Nat) : Int) = mixI k xs (i + 1) := by
 unfold mixI
 rw [List.set_append_right _ _ (by simp), marks_len, Nat.sub_self, List.drop_eq_getElem_cons h, List.set_cons_zero]; have : marks k (i + 1) = marks k i ++ [((k + i : Nat) : Int)] := by simp [marks, List.range_succ]
 rw [this]; simp
theorem markIntS_any (lo : Nat) (v : Value) (xs : List Int) (F : List Nat) (k : Nat) (w : World) (h : OwnI w lo v xs F) (hk : k ≤ 1099511627776) (hs : xs.length ≤ 1048576) :
  Calls Tryz.prog 81 #[v, .int .i64 k] w fun e w' => e = .returned (.int .i64 (k + xs.length : Nat)) ∧ OwnI w' lo v (marks k xs.length) F ∧ Only F w w' := by
 obtain ⟨A, c, hv⟩ := own_form h.row; subst hv; have hrd := rdI_own h.row h.wf; have hcap := hrd.cap; have hcm := hrd.capMax
 unfold maxLen at hcm
 have hfoot := h.foot; go_enter Tryz.func81, Tryz.ntmps81; go_wp2
 go_loopw [5, 1] (fun i kk wr => ∃ j : Nat, j ≤ xs.length ∧ i = .int .i64 j ∧ kk = .int .i64 (k + j : Nat) ∧ wr.ownsRow lo 3 1 (.slice A xs.length c) xs.length (ints (mixI k xs j)) ∧ Only F w wr) (fun i _ _ => xs.length - (intOf i).toNat)
 case atStart => exact ⟨0, by omega, rfl, rfl, by rw [mixI_zero]; exact h.row, Only.refl _ _⟩
 case round =>
  obtain ⟨j, hj, rfl, rfl, hown, hon⟩ := hrel
  by_cases hlt : j < xs.length
  ·obtain ⟨g, cap, hv, hg, _, _⟩ := own_some hown (by omega); simp only [Value.slice.injEq] at hv; obtain ⟨rfl, -, rfl⟩ := hv; have hml := mixI_len k xs j hj; have hcl : wr.cell? ⟨g, j, none⟩ = (ints (mixI k xs j))[j]? := hown.cellAt j (by omega); obtain ⟨u, hu⟩ : ∃ u, (ints (mixI k xs j))[j]? = some u := ⟨(ints (mixI k xs j))[j]'(by simp; omega), List.getElem?_eq_getElem _⟩; rw [hu] at hcl; have hfr : wr.frozen? ⟨g, j, none⟩ = false := hown.frozenAt j
   have HST : Hid ((wr.setCell ⟨g, j, none⟩ (.int .i64 (k + j : Nat))).ownsRow lo 3 1 (.slice (some ⟨g, 0, none⟩) xs.length c) xs.length (ints (mixI k xs (j + 1)))) := Lib.hid (by
    have := (hown.stored j (.int .i64 (k + j : Nat))).1
    have e : (ints (mixI k xs j)).set j (.int .i64 (k + j : Nat)) = ints (mixI k xs (j + 1)) := by
     rw [← mixI_step k xs j hlt]; unfold ints; rw [List.map_set]
    rwa [e] at this)
   have HON : Hid (Only F w (wr.setCell ⟨g, j, none⟩ (.int .i64 (k + j : Nat)))) := Lib.hid (hon.set (by rw [hfoot]; simp [Value.ownBlock]) _); clear hu hown hon hml; go_wp2
   go_roundw
   case rel => exact ⟨j + 1, by omega, by go_num, by go_num, HST.out, HON.out⟩
   case measure => simp [intOf]; omega
  ·have hjn : j = xs.length := by omega
   have HJ := Lib.hid hjn; clear hjn; go_wp2; go_ret; refine ⟨by rw [← HJ.out]; rfl, ⟨?_, marks_wf _ _ (by omega), hfoot⟩, hon⟩; rw [HJ.out, mixI_done] at hown; rw [marks_len]; exact hown
theorem heldIntS_any (A : Option Addr) (n c k : Nat) (w : World) (h : RdI .i64 w w.heap.size A n c (marks k n)) (hk : k ≤ 1099511627776) (hs : n ≤ 1048576) :
  Calls Tryz.prog 84 #[.slice A n c, .int .i64 k] w fun e w' => e = .returned (.int .i64 (k + n : Nat)) ∧ w = w' := by
 have hcap := h.cap; have hcm := h.capMax
 unfold maxLen at hcm
 go_enter Tryz.func84, Tryz.ntmps84; go_wp2
 go_loop [5, 1] (fun i kk => ∃ j : Nat, j ≤ n ∧ i = .int .i64 j ∧ kk = .int .i64 (k + j : Nat)) (fun i _ => n - (intOf i).toNat)
 case atStart => exact ⟨0, by omega, rfl, rfl⟩
 case round =>
  obtain ⟨j, hj, rfl, rfl⟩ := hrel
  by_cases hlt : j < n
  ·obtain ⟨b, off, x, rfl, hb, hx, hw, hc⟩ := h.get hlt; have hxe : x = ((k + j : Nat) : Int) := by have := hx.symm.trans (marks_get k n j hlt); injection this
   subst hxe; clear hx; go_wp2
   go_round
   case rel => exact ⟨j + 1, by omega, by go_num, by go_num⟩
   case measure => simp [intOf]; omega
  ·have hjn : j = n := by omega
   have HJ := Lib.hid hjn; clear hjn; go_wp2; go_ret; exact ⟨by rw [← HJ.out]; rfl, rfl⟩
def markD (k : Nat) (d : DeedD) : DeedD := ⟨marks k d.need.length, ((k + d.need.length : Nat) : Int), ((k + d.need.length + 1 : Nat) : Int), ((k + d.need.length + 2 : Nat) : Int)⟩
def mkD (d : DeedD) : Nat := d.need.length + 3
def mkDs (ds : List DeedD) : Nat := (ds.map mkD).sum
def markAt (k : Nat) (ds : List DeedD) (i : Nat) : Nat := k + ((ds.take i).map mkD).sum
def markDs (k : Nat) : List DeedD → List DeedD
 | [] => []
 | d :: ds => markD k d :: markDs (k + mkD d) ds
theorem markDs_len (k : Nat) (ds : List DeedD) : (markDs k ds).length = ds.length := by
 induction ds generalizing k with
 | nil => rfl
 | cons d ds ih => simp [markDs, ih]
theorem markDs_get (k : Nat) (ds : List DeedD) (i : Nat) (d : DeedD) (hd : ds[i]? = some d) : (markDs k ds)[i]? = some (markD (markAt k ds i) d) := by
 induction ds generalizing k i with
 | nil => simp at hd
 | cons e ds ih =>
  cases i with
  | zero => simp only [List.getElem?_cons_zero, Option.some.injEq] at hd; subst hd; simp [markDs, markAt]
  | succ i =>
   simp only [List.getElem?_cons_succ] at hd; simp only [markDs, List.getElem?_cons_succ]; rw [ih (k + mkD e) i hd]
   simp [markAt, Nat.add_assoc]
theorem markAt_step (k : Nat) (ds : List DeedD) (i : Nat) (d : DeedD) (hd : ds[i]? = some d) : markAt k ds (i + 1) = markAt k ds i + mkD d := by
 obtain ⟨h, he⟩ := List.getElem?_eq_some_iff.1 hd
 unfold markAt
 rw [List.take_succ_eq_append_getElem h, he]; simp [Nat.add_assoc]
theorem markAt_all (k : Nat) (ds : List DeedD) : markAt k ds ds.length = k + mkDs ds := by unfold markAt mkDs; rw [List.take_length]
theorem markAt_le (k : Nat) (ds : List DeedD) (i : Nat) : markAt k ds i ≤ k + mkDs ds := by
 unfold markAt mkDs
 have : (ds.map mkD).sum = ((ds.take i).map mkD).sum + ((ds.drop i).map mkD).sum := by rw [← List.sum_append, ← List.map_append, List.take_append_drop]
 omega
def mixD (k : Nat) (ds : List DeedD) (i : Nat) : List DeedD := (markDs k ds).take i ++ ds.drop i
theorem mixD_len (k : Nat) (ds : List DeedD) (i : Nat) (h : i ≤ ds.length) : (mixD k ds i).length = ds.length := by simp [mixD, markDs_len]; omega
theorem mixD_zero (k : Nat) (ds : List DeedD) : mixD k ds 0 = ds := by simp [mixD]
theorem mixD_done (k : Nat) (ds : List DeedD) : mixD k ds ds.length = markDs k ds := by
 unfold mixD; rw [List.take_of_length_le (by rw [markDs_len]; exact Nat.le_refl _), List.drop_length, List.append_nil]
theorem mixD_at (k : Nat) (ds : List DeedD) (i : Nat) (d : DeedD) (hd : ds[i]? = some d) : (mixD k ds i)[i]? = some d := by
 obtain ⟨h, he⟩ := List.getElem?_eq_some_iff.1 hd
 unfold mixD
 rw [List.getElem?_append_right (by simp; omega)]; have : ((markDs k ds).take i).length = i := by rw [List.length_take, markDs_len]; omega
 rw [this, Nat.sub_self, List.getElem?_drop, Nat.add_zero]; exact hd
theorem mixD_step (k : Nat) (ds : List DeedD) (i : Nat) (d : DeedD) (hd : ds[i]? = some d) : (mixD k ds i).set i (markD (markAt k ds i) d) = mixD k ds (i + 1) := by
 obtain ⟨h, he⟩ := List.getElem?_eq_some_iff.1 hd; have hl : ((markDs k ds).take i).length = i := by rw [List.length_take, markDs_len]; omega
 unfold mixD
 rw [List.set_append_right _ _ (by omega), hl, Nat.sub_self, List.drop_eq_getElem_cons h, List.set_cons_zero]; have hm := markDs_get k ds i d hd; obtain ⟨h2, h3⟩ := List.getElem?_eq_some_iff.1 hm; rw [List.take_succ_eq_append_getElem h2, h3]; simp
def set3 (cells : List Value) (i : Nat) (a b c : Int) : List Value := ((cells.set (i * 4 + 1) (.int .i64 a)).set (i * 4 + 2) (.int .i64 b)).set (i * 4 + 3) (.int .i64 c)
theorem set3_other (cells : List Value) (i : Nat) (a b c : Int) (j : Nat) (h : j < i * 4 + 1 ∨ i * 4 + 4 ≤ j) : (set3 cells i a b c)[j]? = cells[j]? := by
 unfold set3; rw [List.getElem?_set_ne (by omega), List.getElem?_set_ne (by omega), List.getElem?_set_ne (by omega)]
theorem set3_at (cells : List Value) (i : Nat) (a b c : Int) (h : i * 4 + 3 < cells.length) : (set3 cells i a b c)[i * 4 + 1]? = some (.int .i64 a) ∧ (set3 cells i a b c)[i * 4 + 2]? = some (.int .i64 b) ∧ (set3 cells i a b c)[i * 4 + 3]? = some (.int .i64 c) := by
 unfold set3
 refine ⟨?_, ?_, ?_⟩
 ·rw [List.getElem?_set_ne (by omega), List.getElem?_set_ne (by omega), List.getElem?_set_self (by omega)]
 ·rw [List.getElem?_set_ne (by omega), List.getElem?_set_self (by simp; omega)]
 ·rw [List.getElem?_set_self (by simp; omega)]
theorem OwnDs.turned {w w1 : World} {lo g n c : Nat} {ds : List DeedD} {F : List Nat} {cells : List Value} {Fs : List (List Nat)} (h : OwnDs w lo (.slice (some ⟨g, 0, none⟩) n c) ds F cells Fs) (hn : ds.length = n) (hnd : F.Nodup)
  (i : Nat) (d : DeedD) (hd : ds[i]? = some d) (nv : Value) (hnv : cells[i * 4]? = some nv) (Fi : List Nat) (hFi : Fs[i]? = some Fi) (e : DeedD) (hlen : e.need.length ≤ 1048576)
  (ho : OwnI w1 lo nv e.need Fi) (hon : Only Fi w w1) (hwf : (Lit.int .i64 e.on).wf = true ∧ (Lit.int .i64 e.off).wf = true ∧ (Lit.int .i64 e.flip).wf = true) :
  OwnDs (((w1.setCell ⟨g, i * 4 + 1, none⟩ (.int .i64 e.on)).setCell ⟨g, i * 4 + 2, none⟩ (.int .i64 e.off)).setCell ⟨g, i * 4 + 3, none⟩ (.int .i64 e.flip)) lo (.slice (some ⟨g, 0, none⟩) n c) (ds.set i e) F (set3 cells i e.on e.off e.flip) Fs ∧
  Only F w (((w1.setCell ⟨g, i * 4 + 1, none⟩ (.int .i64 e.on)).setCell ⟨g, i * 4 + 2, none⟩ (.int .i64 e.off)).setCell ⟨g, i * 4 + 3, none⟩ (.int .i64 e.flip)) := by
 subst hn; have hi : i < ds.length := (List.getElem?_eq_some_iff.1 hd).1; have hfoot := h.foot; simp only [Value.ownBlock, Option.toList] at hfoot; rw [hfoot] at hnd; have hnd' := hnd; rw [List.singleton_append, List.nodup_cons] at hnd; obtain ⟨hgF, hflat⟩ := hnd; have hgFi : g ∉ Fi := fun hx => hgF (mem_flat hFi hx)
 have hgw := h.row.lt g rfl
 have hrow1 : w1.ownsRow lo 144 4 (.slice (some ⟨g, 0, none⟩) ds.length c) ds.length cells := ownsRow_heap h.row fun b hb => by
  simp only [Value.ownBlock, Option.some.injEq] at hb; subst hb; exact hon.block _ hgw.2 hgFi
 have s1 := (hrow1.stored (i * 4 + 1) (.int .i64 e.on)).1; have s2 := (s1.stored (i * 4 + 2) (.int .i64 e.off)).1; have s3 := (s2.stored (i * 4 + 3) (.int .i64 e.flip)).1
 have hother : ∀ b, b ≠ g → (((w1.setCell ⟨g, i * 4 + 1, none⟩ (.int .i64 e.on)).setCell ⟨g, i * 4 + 2, none⟩ (.int .i64 e.off)).setCell ⟨g, i * 4 + 3, none⟩ (.int .i64 e.flip)).heap[b]? = w1.heap[b]? := fun b hb => by
  rw [Below.heap_setCell _ _ _ _ hb, Below.heap_setCell _ _ _ _ hb, Below.heap_setCell _ _ _ _ hb]
 have hcl : cells.length = ds.length * 4 := h.row.1; refine ⟨⟨by rw [List.length_set]; exact s3, by rw [List.length_set]; exact h.small, by rw [List.length_set]; exact h.flen, h.foot, fun j d' Fj hd' hFj => ?_⟩, ?_⟩
 ·by_cases hji : j = i
  ·subst hji; rw [List.getElem?_set_self hi] at hd'
   injection hd' with hd'
   subst hd'
   have := hFj.symm.trans hFi
   injection this with this
   subst this; obtain ⟨c1, c2, c3⟩ := set3_at cells j e.on e.off e.flip (by omega); exact ⟨nv, (set3_other _ _ _ _ _ _ (by omega)).trans hnv, c1, c2, c3, ho.keep fun b hb => hother b (fun e => hgFi (by rw [← e]; exact hb)), hlen, hwf⟩
  ·rw [List.getElem?_set_ne (by omega)] at hd'; obtain ⟨nv', q0, q1, q2, q3, q4, r⟩ := h.deed j d' Fj hd' hFj; refine ⟨nv', (set3_other _ _ _ _ _ _ (by omega)).trans q0, (set3_other _ _ _ _ _ _ (by omega)).trans q1, (set3_other _ _ _ _ _ _ (by omega)).trans q2, (set3_other _ _ _ _ _ _ (by omega)).trans q3, q4.keep fun b hb => ?_, r⟩; have hbg : b ≠ g := fun e => hgF (by rw [← e]; exact mem_flat hFj hb)
   rw [hother b hbg]; refine hon.block b (q4.lt b hb).2 fun hx => ?_
   -- b stands in two parts of a list without doubles
   have hj2 : j < Fs.length := (List.getElem?_eq_some_iff.1 hFj).1; have hi2 : i < Fs.length := (List.getElem?_eq_some_iff.1 hFi).1; have hp := List.pairwise_iff_getElem.1 (List.pairwise_flatten.1 hflat).2
   rcases Nat.lt_or_gt_of_ne hji with h1 | h1
   ·exact hp j i hj2 hi2 h1 b (by rw [(List.getElem?_eq_some_iff.1 hFj).2]; exact hb) b (by rw [(List.getElem?_eq_some_iff.1 hFi).2]; exact hx) rfl
   ·exact hp i j hi2 hj2 h1 b (by rw [(List.getElem?_eq_some_iff.1 hFi).2]; exact hx) b (by rw [(List.getElem?_eq_some_iff.1 hFj).2]; exact hb) rfl
 ·have hsub : Only F w w1 := hon.sub fun x hx => by rw [h.foot]; exact List.mem_append_right _ (mem_flat hFi hx)
  have hgm : g ∈ F := by rw [h.foot]; simp [Value.ownBlock]
  exact ((hsub.set hgm _).set hgm _).set hgm _
theorem markDeedS_any (lo : Nat) (v : Value) (ds : List DeedD) (F : List Nat) (cells : List Value) (Fs : List (List Nat)) (k : Nat) (w : World) (h : OwnDs w lo v ds F cells Fs) (hnd : F.Nodup) (hk : k + mkDs ds ≤ 1099511627776) :
  Calls Tryz.prog 146 #[v, .int .i64 k] w fun e w' => e = .returned (.int .i64 (k + mkDs ds : Nat)) ∧ (∃ cells', OwnDs w' lo v (markDs k ds) F cells' Fs) ∧ Only F w w' := by
 obtain ⟨A, c, hv⟩ := own_form h.row; subst hv; have hsm := h.small; go_enter Tryz.func146, Tryz.ntmps146; go_wp2
 go_loopw [5, 1] (fun i kk wr => ∃ (j : Nat) (cells : List Value), j ≤ ds.length ∧ i = .int .i64 j ∧ kk = .int .i64 (markAt k ds j : Nat) ∧ OwnDs wr lo (.slice A ds.length c) (mixD k ds j) F cells Fs ∧ Only F w wr) (fun i _ _ => ds.length - (intOf i).toNat)
 case atStart => exact ⟨0, cells, by omega, rfl, by simp [markAt], by rw [mixD_zero]; exact h, Only.refl _ _⟩
 case round =>
  obtain ⟨j, cl, hj, rfl, rfl, hown, hon⟩ := hrel; have hml := mixD_len k ds j hj; have hmle := markAt_le k ds j
  by_cases hlt : j < ds.length
  ·have hrow := hown.row; rw [hml] at hrow; obtain ⟨g, cap, hv, hg, hcc, hcm⟩ := own_some hrow (by omega); simp only [Value.slice.injEq] at hv; obtain ⟨rfl, -, rfl⟩ := hv
   unfold maxLen at hcm
   obtain ⟨d, hd⟩ : ∃ d, ds[j]? = some d := ⟨ds[j], List.getElem?_eq_getElem hlt⟩; have hmd := mixD_at k ds j d hd; have hflen := hown.flen; obtain ⟨Fi, hFi⟩ : ∃ Fi, Fs[j]? = some Fi := ⟨Fs[j]'(by omega), List.getElem?_eq_getElem _⟩; obtain ⟨nv, q0, q1, q2, q3, hneed, hns, -⟩ := hown.deed j d Fi hmd hFi; have hcl : cl.length = ds.length * 4 := hrow.1; have c0 : wr.cell? ⟨g, j * 4, none⟩ = some nv := (hrow.cellAt (j * 4) (by omega)).trans q0; obtain ⟨An, cn, hnv⟩ := own_form hneed.row; have hmkd : markAt k ds (j + 1) = markAt k ds j + mkD d := markAt_step k ds j d hd; have hmle2 := markAt_le k ds (j + 1); have hmk2 : mkD d = d.need.length + 3 := rfl; have HMK : Hid (markAt k ds (j + 1) = markAt k ds j + (d.need.length + 3)) := Lib.hid hmkd; have HST := Lib.hid (mixD_step k ds j d hd)
   have HTU : Hid (∀ (e : DeedD) (w1 : World), e.need.length ≤ 1048576 → OwnI w1 lo nv e.need Fi → Only Fi wr w1 → ((Lit.int .i64 e.on).wf = true ∧ (Lit.int .i64 e.off).wf = true ∧ (Lit.int .i64 e.flip).wf = true) →
    OwnDs (((w1.setCell ⟨g, j * 4 + 1, none⟩ (.int .i64 e.on)).setCell ⟨g, j * 4 + 2, none⟩ (.int .i64 e.off)).setCell ⟨g, j * 4 + 3, none⟩ (.int .i64 e.flip)) lo (.slice (some ⟨g, 0, none⟩) ds.length c) ((mixD k ds j).set j e) F (set3 cl j e.on e.off e.flip) Fs ∧
    Only F wr (((w1.setCell ⟨g, j * 4 + 1, none⟩ (.int .i64 e.on)).setCell ⟨g, j * 4 + 2, none⟩ (.int .i64 e.off)).setCell ⟨g, j * 4 + 3, none⟩ (.int .i64 e.flip))) :=
    Lib.hid fun e w1 h1 h2 h3 h4 => hown.turned hml hnd j d hmd nv q0 Fi hFi e h1 h2 h3 h4
   have hgF : g ∉ Fi := fun hx => by
    have := hown.foot
    simp only [Value.ownBlock, Option.toList] at this; rw [this, List.singleton_append, List.nodup_cons] at hnd; exact hnd.1 (mem_flat hFi hx)
   have hgw := (hrow.lt g rfl).2; have hcellx : ∀ i, i < ds.length * 4 → ∃ u, wr.cell? ⟨g, i, none⟩ = some u := fun i hi => ⟨cl[i]'(by omega), (hrow.cellAt i hi).trans (List.getElem?_eq_getElem _)⟩
   have hfz : ∀ i, wr.frozen? ⟨g, i, none⟩ = false := hrow.frozenAt; subst hnv; have HNEED := Lib.hid hneed; have HN2 := Lib.hid hmkd; clear hmd hFi q0 q1 q2 q3 hneed hmkd hd hown hrow
   go_wp2_with fail
   refine (markIntS_any lo (.slice An d.need.length cn) d.need Fi (markAt k ds j) _ HNEED.out (by omega) hns).mono ?_; rintro e w1 ⟨rfl, hoi, hon1⟩; have hblk : w1.heap[g]? = wr.heap[g]? := hon1.block g hgw hgF; have hce : ∀ i, w1.cell? ⟨g, i, none⟩ = wr.cell? ⟨g, i, none⟩ := fun i => World.cell?_of_block (a := ⟨g, i, none⟩) hblk
   have hfe : ∀ i, w1.frozen? ⟨g, i, none⟩ = false := fun i => (World.frozen?_of_block (a := ⟨g, i, none⟩) hblk).trans (hfz i)
   obtain ⟨u1, x1⟩ := hcellx (j * 4 + 1) (by omega); obtain ⟨u2, x2⟩ := hcellx (j * 4 + 2) (by omega); obtain ⟨u3, x3⟩ := hcellx (j * 4 + 3) (by omega); have y1 := (hce _).trans x1; have y2 := (hce _).trans x2; have y3 := (hce _).trans x3; have HT2 := Lib.hid (HTU.out (markD (markAt k ds j) d) w1 (by simp [markD]; omega) hoi hon1 ⟨wf_i64_mk (by simp only [markD]; omega), wf_i64_mk (by simp only [markD]; omega), wf_i64_mk (by simp only [markD]; omega)⟩); clear hce hcellx hfz x1 x2 x3 hblk hoi hon1 c0
   generalize hma : markAt k ds j = ma at *
   have HMA := Lib.hid hma; clear hma; go_wp2
   go_roundw
   case rel => exact ⟨j + 1, _, by omega, by go_num, by rw [HMK.out]; first | rfl | (congr 1; omega), by rw [← HST.out]; exact HT2.out.1, hon.trans HT2.out.2⟩
   case measure => simp [intOf]; omega
  ·have hjn : j = ds.length := by omega
   have HJ := Lib.hid hjn; clear hjn; have HV : Hid (markAt k ds j = k + mkDs ds) := Lib.hid (by rw [HJ.out]; exact markAt_all k ds); have HO : Hid (OwnDs wr lo (.slice A ds.length c) (markDs k ds) F cl Fs) := Lib.hid (by have := hown; rwa [HJ.out, mixD_done] at this); clear hown; go_wp2; go_ret; exact ⟨ret_int (by have := HV.out; show ((markAt k ds j : Nat) : Int) = _; omega), ⟨_, HO.out⟩, hon⟩
theorem heldDeedS_any (A : Option Addr) (n c k : Nat) (ds : List DeedD) (w : World) (h : RdDs w w.heap.size A n c (markDs k ds)) (hk : k + mkDs ds ≤ 1099511627776) :
  Calls Tryz.prog 147 #[.slice A n c, .int .i64 k] w fun e w' => e = .returned (.int .i64 (k + mkDs ds : Nat)) ∧ w = w' := by
 have hl := h.len; rw [markDs_len] at hl; have hcap := h.cap; have hcm := h.capMax
 unfold maxLen at hcm
 have HL := Lib.hid hl; clear hl; go_enter Tryz.func147, Tryz.ntmps147; go_wp2
 go_loop [5, 1] (fun i kk => ∃ j : Nat, j ≤ n ∧ i = .int .i64 j ∧ kk = .int .i64 (markAt k ds j : Nat)) (fun i _ => n - (intOf i).toNat)
 case atStart => exact ⟨0, by omega, rfl, by simp [markAt]⟩
 case round =>
  obtain ⟨j, hj, rfl, rfl⟩ := hrel; have hmle := markAt_le k ds j; have hmle2 := markAt_le k ds (j + 1)
  by_cases hlt : j < n
  ·obtain ⟨b, off, e, rfl, hb, he, hda⟩ := h.get hlt; obtain ⟨d, hd⟩ : ∃ d, ds[j]? = some d := ⟨ds[j]'(by rw [HL.out]; exact hlt), List.getElem?_eq_getElem _⟩; have hee : e = markD (markAt k ds j) d := by have := he.symm.trans (markDs_get k ds j d hd); injection this
   subst hee; obtain ⟨An, nn, cn, q0, q1, q2, q3, hneed, hnn, -⟩ := hda; have hmkd := markAt_step k ds j d hd; have hnl := hneed.len; simp only [markD, marks_len] at hnl; subst hnl; have hmk2 : mkD d = d.need.length + 3 := rfl; have HMK : Hid (markAt k ds (j + 1) = markAt k ds j + (d.need.length + 3)) := Lib.hid hmkd; simp only [markD] at q1 q2 q3; have HNEED : Hid (RdI .i64 w w.heap.size An d.need.length cn (marks (markAt k ds j) d.need.length)) := Lib.hid hneed; clear he hd hneed
   go_wp2_with fail
   refine (heldIntS_any An d.need.length cn (markAt k ds j) _ HNEED.out (by omega) hnn).mono ?_; rintro e w1 ⟨rfl, rfl⟩
   generalize hma : markAt k ds j = ma at *
   have HMA := Lib.hid hma; clear hma; go_wp2
   go_round
   case rel => exact ⟨j + 1, by omega, by go_num, by rw [HMK.out]; first | rfl | (congr 1; omega)⟩
   case measure => simp [intOf]; omega
  ·have hjn : j = n := by omega
   have HJ := Lib.hid hjn; clear hjn; have HV : Hid (markAt k ds j = k + mkDs ds) := Lib.hid (by rw [HJ.out, ← HL.out]; exact markAt_all k ds); go_wp2; go_ret; exact ⟨ret_int (by have := HV.out; show ((markAt k ds j : Nat) : Int) = _; omega), rfl⟩
def mkT (t : TaskD) : Nat := t.goal.length + mkDs t.deeds
def markT (k : Nat) (t : TaskD) : TaskD := ⟨t.start, marks k t.goal.length, markDs (k + t.goal.length) t.deeds⟩
theorem markTask_any (lo : Nat) (v : Value) (t : TaskD) (F : List Nat) (k : Nat) (w : World) (h : OwnT w lo v t F) (hnd : F.Nodup) (hk : k + mkT t ≤ 1099511627776) :
  Calls Tryz.prog 80 #[v, .int .i64 k] w fun e w' => e = .returned (.int .i64 (k + mkT t : Nat)) ∧ OwnT w' lo v (markT k t) F ∧ Only F w w' := by
 obtain ⟨gv, dv, Fg, Fd, cells, Fs, rfl, h1, h2, h3, rfl, h4⟩ := h; rw [List.nodup_append] at hnd; obtain ⟨hn1, hn2, hn3⟩ := hnd; have hk' : k + t.goal.length + mkDs t.deeds ≤ 1099511627776 := by unfold mkT at hk; omega
 obtain ⟨Ag, cg, hgv⟩ := own_form h1.row; obtain ⟨Ad, cd, hdv⟩ := own_form h3.row; subst hgv; subst hdv; have hb0 : Below w.heap.size w (w.alloc (Obj.cells #[.int .i64 t.start, .slice Ag t.goal.length cg, .slice Ad t.deeds.length cd] 26)) := (Below.refl _ _).alloc (Nat.le_refl _) _; have hk0 := Blk.new w 26 #[.int .i64 t.start, .slice Ag t.goal.length cg, .slice Ad t.deeds.length cd]; have hlt1 := h1.lt; have hlt3 := h3.lt; have H1 := Lib.hid (h1.below hb0); have HB0 := Lib.hid hb0; clear hb0; go_enter Tryz.func80, Tryz.ntmps80
 go_wp2_with fail
 refine (markIntS_any lo _ t.goal Fg k _ H1.out (by omega) h2).mono ?_; rintro e w1 ⟨rfl, ho1, hon1⟩
 have hk1 : Blk w1 w.heap.size 26 #[.int .i64 t.start, .slice Ag t.goal.length cg, .slice Ad t.deeds.length cd] := by
  unfold Blk; rw [hon1.block _ (by simp) (fun hx => by have := (hlt1 _ hx).2; omega)]; exact hk0
 have c2 : w1.cell? ⟨w.heap.size, 2, none⟩ = some (.slice Ad t.deeds.length cd) := hk1.cell 2; have ho3 : OwnDs w1 lo (.slice Ad t.deeds.length cd) t.deeds Fd cells Fs := (h3.below HB0.out).keep fun b hb => hon1.block b (by have := (hlt3 b hb).2; simp; omega) (fun hx => hn3 b hx b hb rfl)
 have HO3 := Lib.hid ho3; clear ho3 hk0 hk1
 go_wp2_with fail
 refine (markDeedS_any lo _ t.deeds Fd cells Fs (k + t.goal.length) _ HO3.out hn2 hk').mono ?_; rintro e w2 ⟨rfl, ⟨cells', ho2⟩, hon2⟩; have hs1 := hon1.size; simp only [World.size_alloc] at hs1
 have key : OwnT w2 lo (.agg #[.int .i64 t.start, .slice Ag t.goal.length cg, .slice Ad t.deeds.length cd]) (markT k t) (Fg ++ Fd) ∧ Only (Fg ++ Fd) w w2 := by
  refine ⟨⟨_, _, Fg, Fd, cells', Fs, rfl, ho1.keep fun b hb => hon2.block b (by have := (ho1.lt b hb).2; omega) (fun hx => hn3 b hb b hx rfl), by simp [markT]; exact h2, ho2, rfl, h4⟩, ?_⟩; exact ((Only.of_below HB0.out).trans (hon1.sub fun x hx => List.mem_append_left _ hx)).trans (hon2.sub fun x hx => List.mem_append_right _ hx)
 have KEY := Lib.hid key; clear key ho1 ho2 hon1 hon2; go_wp2; go_ret; exact ⟨ret_int (by show ((k + t.goal.length + mkDs t.deeds : Nat) : Int) = _; unfold mkT; omega), KEY.out⟩
theorem heldTask_any (v : Value) (k : Nat) (t : TaskD) (w : World) (h : RdT w w.heap.size v (markT k t)) (hk : k + mkT t ≤ 1099511627776) :
  Calls Tryz.prog 83 #[v, .int .i64 k] w fun e w' => e = .returned (.int .i64 (k + mkT t : Nat)) ∧ Below w.heap.size w w' := by
 obtain ⟨A, n, c, A', n', c', rfl, hg, hgs, hds, hst⟩ := h; have hk' : k + t.goal.length + mkDs t.deeds ≤ 1099511627776 := by unfold mkT at hk; omega
 have hnl := hg.len; simp only [markT, marks_len] at hnl; subst hnl; have hb0 : Below w.heap.size w (w.alloc (Obj.cells #[.int .i64 t.start, .slice A t.goal.length c, .slice A' n' c'] 26)) := (Below.refl _ _).alloc (Nat.le_refl _) _; have H1 : Hid (RdI .i64 _ _ A t.goal.length c (marks k t.goal.length)) := Lib.hid (hg.up hb0); have H2 : Hid (RdDs _ _ A' n' c' (markDs (k + t.goal.length) t.deeds)) := Lib.hid (hds.up hb0); have HB0 := Lib.hid hb0; clear hb0; go_enter Tryz.func83, Tryz.ntmps83
 go_wp2_with fail
 refine (heldIntS_any A t.goal.length c k _ H1.out (by omega) hgs).mono ?_; rintro e w1 ⟨rfl, rfl⟩
 go_wp2_with fail
 refine (heldDeedS_any A' n' c' (k + t.goal.length) t.deeds _ H2.out hk').mono ?_; rintro e w2 ⟨rfl, rfl⟩; go_wp2; go_ret; exact ⟨ret_int (by show ((k + t.goal.length + mkDs t.deeds : Nat) : Int) = _; unfold mkT; omega), HB0.out⟩
section
variable {w w2 w3 : World} {lo : Nat} {v v' : Value}
theorem OwnI.none (w : World) (lo : Nat) : OwnI w lo (.slice .none 0 0) [] [] := ⟨World.ownsRow_nil w lo _ 1, by simp, rfl⟩
structure OwnP (w : World) (lo : Nat) (v : Value) (xss : List (List Int)) (vs : List Value) : Prop where
 row : w.ownsRow lo 23 1 v xss.length vs
 at_ : ∀ (i : Nat) xs, xss[i]? = some xs → ∃ nv F, vs[i]? = some nv ∧ OwnI w lo nv xs F ∧ ∀ b ∈ F, v.ownBlock ≠ some b
theorem OwnP.none (w : World) (lo : Nat) : OwnP w lo (.slice .none 0 0) [] [] := ⟨World.ownsRow_nil w lo _ 1, by simp⟩
structure RdP (w : World) (B : Nat) (A : Option Addr) (n c : Nat) (xss : List (List Int)) : Prop where
 len : xss.length = n
 cap : n ≤ c
 capMax : c ≤ maxLen
 at_ : 0 < n → ∃ b off, A = some ⟨b, off, .none⟩ ∧ b < B ∧ ∀ (i : Nat) xs, xss[i]? = some xs → ∃ Ai ci, w.cell? ⟨b, off + i, .none⟩ = some (.slice Ai xs.length ci) ∧ RdI .i64 w B Ai xs.length ci xs
structure PushDs (w : World) (lo T : Nat) (v : Value) (ds : List DeedD) (cells : List Value) (Fs : List (List Nat)) : Prop where
 own : OwnDs w lo v ds (v.ownBlock.toList ++ Fs.flatten) cells Fs
 nodup : (v.ownBlock.toList ++ Fs.flatten).Nodup
 apart : T ∉ v.ownBlock.toList ++ Fs.flatten
theorem PushDs.none (w : World) (lo T : Nat) : PushDs w lo T (.slice .none 0 0) [] [] [] :=
 ⟨⟨World.ownsRow_nil w lo _ 4, by simp, rfl, rfl, by simp⟩, by simp [Value.ownBlock], by simp [Value.ownBlock]⟩
section
variable {T : Nat} {ds : List DeedD} {cells : List Value} {Fs : List (List Nat)}
end
end
def turnOne (f : Nat) (x : Int) : List Int := if x < 5 ∧ bit f x.toNat = 1 then [x, 7] else [x]
def turnI (f : Nat) (xs : List Int) : List Int := xs.flatMap (turnOne f)
def turnOn (f a b : Nat) : Nat := a - (a &&& f) + (b &&& f)
def turnD (f : Nat) (d : DeedD) : DeedD := ⟨turnI f d.need, (turnOn f d.on.toNat d.off.toNat : Nat), (turnOn f d.off.toNat d.on.toNat : Nat), d.flip⟩
def turnT (f : Nat) (t : TaskD) : TaskD := ⟨((t.start.toNat ^^^ f : Nat) : Int), turnI f t.goal, t.deeds.map (turnD f)⟩
def turnOk (t : TaskD) (f : Int) : Bool := taskOk t && stIn f && taskOk (turnT f.toNat t)
def taskTurned (t : TaskD) (f : Int) : TaskD := if turnOk t f = true then turnT f.toNat t else ⟨0, [], []⟩
theorem OwnT.zero (w : World) (lo : Nat) : OwnT w lo (.agg #[.int .i64 0, .slice none 0 0, .slice none 0 0]) ⟨0, [], []⟩ [] :=
 ⟨_, _, [], [], [], [], rfl, OwnI.none w lo, by simp, ⟨World.ownsRow_nil w lo _ 4, by simp, rfl, by simp [Value.ownBlock], by simp⟩, rfl, rfl⟩
end Go.Proofs.YtkmcengmglgdeaaGreatDoor
