/- The laws' helpers that mark what a call handed back, and look whether the marks stand: markIntS, heldIntS, markDeedS, heldDeedS, markTask, heldTask. -/
import Derived.Test.YtpcaagbmjhgnaaaJFnTaskTurned3
import Derived.Test.YtpcaagbmjhgnaaaJFnTaskTurned2
namespace Go.Proofs.Ytpcaagbmjhgnaaa
open Go.ChangeShapes Go.WideShapes Go.ChangeAt Go.RowKit

def marks (k n : Nat) : List Int := (List.range n).map fun i => ((k + i : Nat) : Int)
@[simp] theorem marks_len (k n : Nat) : (marks k n).length = n := by simp [marks]
theorem marks_get (k n i : Nat) (h : i < n) : (marks k n)[i]? = some ((k + i : Nat) : Int) := by unfold marks; rw [List.getElem?_map, List.getElem?_range h]; rfl
theorem marks_wf (k n : Nat) (hk : k + n ≤ 9223372036854775807) : ∀ x ∈ marks k n, (Lit.int .i64 x).wf = true := by
  intro x hx
  unfold marks at hx
  obtain ⟨i, hi, rfl⟩ := List.mem_map.1 hx
  have := List.mem_range.1 hi
  exact wf_i64_mk (by omega)
/-- the first i numbers marked -/
def mixI (k : Nat) (xs : List Int) (i : Nat) : List Int := marks k i ++ xs.drop i
theorem mixI_len (k : Nat) (xs : List Int) (i : Nat) (h : i ≤ xs.length) : (mixI k xs i).length = xs.length := by simp [mixI]; omega
theorem mixI_zero (k : Nat) (xs : List Int) : mixI k xs 0 = xs := by simp [mixI, marks]
theorem mixI_done (k : Nat) (xs : List Int) : mixI k xs xs.length = marks k xs.length := by simp [mixI]
theorem mixI_step (k : Nat) (xs : List Int) (i : Nat) (h : i < xs.length) : (mixI k xs i).set i ((k + i : Nat) : Int) = mixI k xs (i + 1) := by
  unfold mixI
  rw [List.set_append_right _ _ (by simp), marks_len, Nat.sub_self, List.drop_eq_getElem_cons h, List.set_cons_zero]
  have : marks k (i + 1) = marks k i ++ [((k + i : Nat) : Int)] := by simp [marks, List.range_succ]
  rw [this]; simp

theorem markIntS_any (lo : Nat) (v : Value) (xs : List Int) (F : List Nat) (k : Nat) (w : World) (h : OwnI w lo v xs F) (hk : k ≤ 1099511627776) (hs : xs.length ≤ 1048576) :
    Calls Try.prog 45 #[v, .int .i64 k] w fun e w' => e = .returned (.int .i64 (k + xs.length : Nat)) ∧ OwnI w' lo v (marks k xs.length) F ∧ Only F w w' := by
  obtain ⟨A, c, hv⟩ := own_form h.row
  subst hv
  have hrd := rdI_own h.row h.wf
  have hcap := hrd.cap
  have hcm := hrd.capMax
  unfold maxLen at hcm
  have hfoot := h.foot
  go_enter Try.func45, Try.ntmps45
  go_wp2
  go_loopw [5, 1] (fun i kk wr => ∃ j : Nat, j ≤ xs.length ∧ i = .int .i64 j ∧ kk = .int .i64 (k + j : Nat) ∧ wr.ownsRow lo 3 1 (.slice A xs.length c) xs.length (ints (mixI k xs j)) ∧ Only F w wr) (fun i _ _ => xs.length - (intOf i).toNat)
  case atStart => exact ⟨0, by omega, rfl, rfl, by rw [mixI_zero]; exact h.row, Only.refl _ _⟩
  case round =>
    obtain ⟨j, hj, rfl, rfl, hown, hon⟩ := hrel
    by_cases hlt : j < xs.length
    · obtain ⟨g, cap, hv, hg, _, _⟩ := own_some hown (by omega)
      simp only [Value.slice.injEq] at hv
      obtain ⟨rfl, -, rfl⟩ := hv
      have hml := mixI_len k xs j hj
      have hcl : wr.cell? ⟨g, j, none⟩ = (ints (mixI k xs j))[j]? := hown.cellAt j (by omega)
      obtain ⟨u, hu⟩ : ∃ u, (ints (mixI k xs j))[j]? = some u := ⟨(ints (mixI k xs j))[j]'(by simp; omega), List.getElem?_eq_getElem _⟩
      rw [hu] at hcl
      have hfr : wr.frozen? ⟨g, j, none⟩ = false := hown.frozenAt j
      have HST : Hid ((wr.setCell ⟨g, j, none⟩ (.int .i64 (k + j : Nat))).ownsRow lo 3 1 (.slice (some ⟨g, 0, none⟩) xs.length c) xs.length (ints (mixI k xs (j + 1)))) := Lib.hid (by
        have := (hown.stored j (.int .i64 (k + j : Nat))).1
        have e : (ints (mixI k xs j)).set j (.int .i64 (k + j : Nat)) = ints (mixI k xs (j + 1)) := by
          rw [← mixI_step k xs j hlt]; unfold ints; rw [List.map_set]
        rwa [e] at this)
      have HON : Hid (Only F w (wr.setCell ⟨g, j, none⟩ (.int .i64 (k + j : Nat)))) := Lib.hid (hon.set (by rw [hfoot]; simp [Value.ownBlock]) _)
      clear hu hown hon hml
      go_wp2
      go_roundw
      case rel => exact ⟨j + 1, by omega, by go_num, by go_num, HST.out, HON.out⟩
      case measure => simp [intOf]; omega
    · have hjn : j = xs.length := by omega
      have HJ := Lib.hid hjn
      clear hjn
      go_wp2
      go_ret
      refine ⟨by rw [← HJ.out]; rfl, ⟨?_, marks_wf _ _ (by omega), hfoot⟩, hon⟩
      rw [HJ.out, mixI_done] at hown
      rw [marks_len]; exact hown

theorem heldIntS_any (A : Option Addr) (n c k : Nat) (w : World) (h : RdI .i64 w w.heap.size A n c (marks k n)) (hk : k ≤ 1099511627776) (hs : n ≤ 1048576) :
    Calls Try.prog 67 #[.slice A n c, .int .i64 k] w fun e w' => e = .returned (.int .i64 (k + n : Nat)) ∧ w = w' := by
  have hcap := h.cap
  have hcm := h.capMax
  unfold maxLen at hcm
  go_enter Try.func67, Try.ntmps67
  go_wp2
  go_loop [5, 1] (fun i kk => ∃ j : Nat, j ≤ n ∧ i = .int .i64 j ∧ kk = .int .i64 (k + j : Nat)) (fun i _ => n - (intOf i).toNat)
  case atStart => exact ⟨0, by omega, rfl, rfl⟩
  case round =>
    obtain ⟨j, hj, rfl, rfl⟩ := hrel
    by_cases hlt : j < n
    · obtain ⟨b, off, x, rfl, hb, hx, hw, hc⟩ := h.get hlt
      have hxe : x = ((k + j : Nat) : Int) := by have := hx.symm.trans (marks_get k n j hlt); injection this
      subst hxe
      clear hx
      go_wp2
      go_round
      case rel => exact ⟨j + 1, by omega, by go_num, by go_num⟩
      case measure => simp [intOf]; omega
    · have hjn : j = n := by omega
      have HJ := Lib.hid hjn
      clear hjn
      go_wp2
      go_ret
      exact ⟨by rw [← HJ.out]; rfl, rfl⟩
def markD (k : Nat) (d : DeedD) : DeedD := ⟨marks k d.need.length, ((k + d.need.length : Nat) : Int), ((k + d.need.length + 1 : Nat) : Int), ((k + d.need.length + 2 : Nat) : Int)⟩
def mkD (d : DeedD) : Nat := d.need.length + 3
def mkDs (ds : List DeedD) : Nat := (ds.map mkD).sum
/-- the mark at which the deed at i begins -/
def markAt (k : Nat) (ds : List DeedD) (i : Nat) : Nat := k + ((ds.take i).map mkD).sum
def markDs (k : Nat) : List DeedD → List DeedD
  | [] => []
  | d :: ds => markD k d :: markDs (k + mkD d) ds
theorem markDs_len (k : Nat) (ds : List DeedD) : (markDs k ds).length = ds.length := by
  induction ds generalizing k with
  | nil => rfl
  | cons d ds ih => simp [markDs, ih]
theorem markDs_get (k : Nat) (ds : List DeedD) (i : Nat) (d : DeedD) (hd : ds[i]? = some d) : (markDs k ds)[i]? = some (markD (markAt k ds i) d) := by
  induction ds generalizing k i with
  | nil => simp at hd
  | cons e ds ih =>
    cases i with
    | zero => simp only [List.getElem?_cons_zero, Option.some.injEq] at hd; subst hd; simp [markDs, markAt]
    | succ i =>
      simp only [List.getElem?_cons_succ] at hd
      simp only [markDs, List.getElem?_cons_succ]
      rw [ih (k + mkD e) i hd]
      simp [markAt, Nat.add_assoc]
theorem markAt_step (k : Nat) (ds : List DeedD) (i : Nat) (d : DeedD) (hd : ds[i]? = some d) : markAt k ds (i + 1) = markAt k ds i + mkD d := by
  obtain ⟨h, he⟩ := List.getElem?_eq_some_iff.1 hd
  unfold markAt
  rw [List.take_succ_eq_append_getElem h, he]; simp [Nat.add_assoc]
theorem markAt_all (k : Nat) (ds : List DeedD) : markAt k ds ds.length = k + mkDs ds := by unfold markAt mkDs; rw [List.take_length]
theorem markAt_le (k : Nat) (ds : List DeedD) (i : Nat) : markAt k ds i ≤ k + mkDs ds := by
  unfold markAt mkDs
  have : (ds.map mkD).sum = ((ds.take i).map mkD).sum + ((ds.drop i).map mkD).sum := by rw [← List.sum_append, ← List.map_append, List.take_append_drop]
  omega
/-- the first i deeds marked -/
def mixD (k : Nat) (ds : List DeedD) (i : Nat) : List DeedD := (markDs k ds).take i ++ ds.drop i
theorem mixD_len (k : Nat) (ds : List DeedD) (i : Nat) (h : i ≤ ds.length) : (mixD k ds i).length = ds.length := by simp [mixD, markDs_len]; omega
theorem mixD_zero (k : Nat) (ds : List DeedD) : mixD k ds 0 = ds := by simp [mixD]
theorem mixD_done (k : Nat) (ds : List DeedD) : mixD k ds ds.length = markDs k ds := by
  unfold mixD; rw [List.take_of_length_le (by rw [markDs_len]; exact Nat.le_refl _), List.drop_length, List.append_nil]
theorem mixD_at (k : Nat) (ds : List DeedD) (i : Nat) (d : DeedD) (hd : ds[i]? = some d) : (mixD k ds i)[i]? = some d := by
  obtain ⟨h, he⟩ := List.getElem?_eq_some_iff.1 hd
  unfold mixD
  rw [List.getElem?_append_right (by simp; omega)]
  have : ((markDs k ds).take i).length = i := by rw [List.length_take, markDs_len]; omega
  rw [this, Nat.sub_self, List.getElem?_drop, Nat.add_zero]; exact hd
theorem mixD_step (k : Nat) (ds : List DeedD) (i : Nat) (d : DeedD) (hd : ds[i]? = some d) : (mixD k ds i).set i (markD (markAt k ds i) d) = mixD k ds (i + 1) := by
  obtain ⟨h, he⟩ := List.getElem?_eq_some_iff.1 hd
  have hl : ((markDs k ds).take i).length = i := by rw [List.length_take, markDs_len]; omega
  unfold mixD
  rw [List.set_append_right _ _ (by omega), hl, Nat.sub_self, List.drop_eq_getElem_cons h, List.set_cons_zero]
  have hm := markDs_get k ds i d hd
  obtain ⟨h2, h3⟩ := List.getElem?_eq_some_iff.1 hm
  rw [List.take_succ_eq_append_getElem h2, h3]; simp

def set3 (cells : List Value) (i : Nat) (a b c : Int) : List Value := ((cells.set (i * 4 + 1) (.int .i64 a)).set (i * 4 + 2) (.int .i64 b)).set (i * 4 + 3) (.int .i64 c)
theorem set3_other (cells : List Value) (i : Nat) (a b c : Int) (j : Nat) (h : j < i * 4 + 1 ∨ i * 4 + 4 ≤ j) : (set3 cells i a b c)[j]? = cells[j]? := by
  unfold set3; rw [List.getElem?_set_ne (by omega), List.getElem?_set_ne (by omega), List.getElem?_set_ne (by omega)]
theorem set3_at (cells : List Value) (i : Nat) (a b c : Int) (h : i * 4 + 3 < cells.length) : (set3 cells i a b c)[i * 4 + 1]? = some (.int .i64 a) ∧ (set3 cells i a b c)[i * 4 + 2]? = some (.int .i64 b) ∧ (set3 cells i a b c)[i * 4 + 3]? = some (.int .i64 c) := by
  unfold set3
  refine ⟨?_, ?_, ?_⟩
  · rw [List.getElem?_set_ne (by omega), List.getElem?_set_ne (by omega), List.getElem?_set_self (by omega)]
  · rw [List.getElem?_set_ne (by omega), List.getElem?_set_self (by simp; omega)]
  · rw [List.getElem?_set_self (by simp; omega)]

/-- one deed of a row of its own turned: its need in place, and its three sets -/
theorem OwnDs.turned {w w1 : World} {lo g n c : Nat} {ds : List DeedD} {F : List Nat} {cells : List Value} {Fs : List (List Nat)} (h : OwnDs w lo (.slice (some ⟨g, 0, none⟩) n c) ds F cells Fs) (hn : ds.length = n) (hnd : F.Nodup)
    (i : Nat) (d : DeedD) (hd : ds[i]? = some d) (nv : Value) (hnv : cells[i * 4]? = some nv) (Fi : List Nat) (hFi : Fs[i]? = some Fi) (e : DeedD) (hlen : e.need.length ≤ 1048576)
    (ho : OwnI w1 lo nv e.need Fi) (hon : Only Fi w w1) (hwf : (Lit.int .i64 e.on).wf = true ∧ (Lit.int .i64 e.off).wf = true ∧ (Lit.int .i64 e.flip).wf = true) :
    OwnDs (((w1.setCell ⟨g, i * 4 + 1, none⟩ (.int .i64 e.on)).setCell ⟨g, i * 4 + 2, none⟩ (.int .i64 e.off)).setCell ⟨g, i * 4 + 3, none⟩ (.int .i64 e.flip)) lo (.slice (some ⟨g, 0, none⟩) n c) (ds.set i e) F (set3 cells i e.on e.off e.flip) Fs ∧
    Only F w (((w1.setCell ⟨g, i * 4 + 1, none⟩ (.int .i64 e.on)).setCell ⟨g, i * 4 + 2, none⟩ (.int .i64 e.off)).setCell ⟨g, i * 4 + 3, none⟩ (.int .i64 e.flip)) := by
  subst hn
  have hi : i < ds.length := (List.getElem?_eq_some_iff.1 hd).1
  have hfoot := h.foot
  simp only [Value.ownBlock, Option.toList] at hfoot
  rw [hfoot] at hnd
  have hnd' := hnd
  rw [List.singleton_append, List.nodup_cons] at hnd
  obtain ⟨hgF, hflat⟩ := hnd
  have hgFi : g ∉ Fi := fun hx => hgF (mem_flat hFi hx)
  have hgw := h.row.lt g rfl
  have hrow1 : w1.ownsRow lo 74 4 (.slice (some ⟨g, 0, none⟩) ds.length c) ds.length cells := ownsRow_heap h.row fun b hb => by
    simp only [Value.ownBlock, Option.some.injEq] at hb
    subst hb
    exact hon.block _ hgw.2 hgFi
  have s1 := (hrow1.stored (i * 4 + 1) (.int .i64 e.on)).1
  have s2 := (s1.stored (i * 4 + 2) (.int .i64 e.off)).1
  have s3 := (s2.stored (i * 4 + 3) (.int .i64 e.flip)).1
  have hother : ∀ b, b ≠ g → (((w1.setCell ⟨g, i * 4 + 1, none⟩ (.int .i64 e.on)).setCell ⟨g, i * 4 + 2, none⟩ (.int .i64 e.off)).setCell ⟨g, i * 4 + 3, none⟩ (.int .i64 e.flip)).heap[b]? = w1.heap[b]? := fun b hb => by
    rw [Below.heap_setCell _ _ _ _ hb, Below.heap_setCell _ _ _ _ hb, Below.heap_setCell _ _ _ _ hb]
  have hcl : cells.length = ds.length * 4 := h.row.1
  refine ⟨⟨by rw [List.length_set]; exact s3, by rw [List.length_set]; exact h.small, by rw [List.length_set]; exact h.flen, h.foot, fun j d' Fj hd' hFj => ?_⟩, ?_⟩
  · by_cases hji : j = i
    · subst hji
      rw [List.getElem?_set_self hi] at hd'
      injection hd' with hd'
      subst hd'
      have := hFj.symm.trans hFi
      injection this with this
      subst this
      obtain ⟨c1, c2, c3⟩ := set3_at cells j e.on e.off e.flip (by omega)
      exact ⟨nv, (set3_other _ _ _ _ _ _ (by omega)).trans hnv, c1, c2, c3, ho.keep fun b hb => hother b (fun e => hgFi (by rw [← e]; exact hb)), hlen, hwf⟩
    · rw [List.getElem?_set_ne (by omega)] at hd'
      obtain ⟨nv', q0, q1, q2, q3, q4, r⟩ := h.deed j d' Fj hd' hFj
      refine ⟨nv', (set3_other _ _ _ _ _ _ (by omega)).trans q0, (set3_other _ _ _ _ _ _ (by omega)).trans q1, (set3_other _ _ _ _ _ _ (by omega)).trans q2, (set3_other _ _ _ _ _ _ (by omega)).trans q3, q4.keep fun b hb => ?_, r⟩
      have hbg : b ≠ g := fun e => hgF (by rw [← e]; exact mem_flat hFj hb)
      rw [hother b hbg]
      refine hon.block b (q4.lt b hb).2 fun hx => ?_
      -- b stands in two parts of a list without doubles
      have hj2 : j < Fs.length := (List.getElem?_eq_some_iff.1 hFj).1
      have hi2 : i < Fs.length := (List.getElem?_eq_some_iff.1 hFi).1
      have hp := List.pairwise_iff_getElem.1 (List.pairwise_flatten.1 hflat).2
      rcases Nat.lt_or_gt_of_ne hji with h1 | h1
      · exact hp j i hj2 hi2 h1 b (by rw [(List.getElem?_eq_some_iff.1 hFj).2]; exact hb) b (by rw [(List.getElem?_eq_some_iff.1 hFi).2]; exact hx) rfl
      · exact hp i j hi2 hj2 h1 b (by rw [(List.getElem?_eq_some_iff.1 hFi).2]; exact hx) b (by rw [(List.getElem?_eq_some_iff.1 hFj).2]; exact hb) rfl
  · have hsub : Only F w w1 := hon.sub fun x hx => by rw [h.foot]; exact List.mem_append_right _ (mem_flat hFi hx)
    have hgm : g ∈ F := by rw [h.foot]; simp [Value.ownBlock]
    exact ((hsub.set hgm _).set hgm _).set hgm _
end Go.Proofs.Ytpcaagbmjhgnaaa
