/- The laws' helpers that copy an argument: toDeed, toDeedS, toTask: each hands back the same data in new memory of its own. -/
import Derived.Test.YtpcaagbmjhgnaaaJFnRingsTask4
namespace Go.Proofs.Ytpcaagbmjhgnaaa
open Go.ChangeShapes Go.WideShapes Go.ChangeAt Go.RowKit

theorem toIntS_own (A : Option Addr) (n c : Nat) (xs : List Int) (w : World) (h : RdI .i64 w w.heap.size A n c xs) (hn : n ≤ 1099511627776) :
    Calls Try.prog 42 #[.slice A n c] w fun e w' => (∃ A' c' F, e = .returned (.slice A' n c') ∧ OwnI w' w.heap.size (.slice A' n c') xs F) ∧ Below w.heap.size w w' :=
  (toIntS_any A n c xs w h hn).mono fun e w' ⟨he, ho, hb⟩ => ⟨⟨_, _, _, he, ⟨by have := h.len; subst this; exact ho, h.wf, rfl⟩⟩, hb⟩
theorem own_blk_full {w : World} {base g : Nat} {e : TypeId} {size n : Nat} {xs : List Value} (h : w.ownsRow base e size (.slice (some ⟨g, 0, none⟩) n n) n xs) : Blk w g e xs.toArray := by
  rcases h.2 with ⟨e, -⟩ | ⟨g', cap, cur, e, -, hh, -, -, hs, ht⟩
  · cases e
  · simp only [Value.slice.injEq, Option.some.injEq, Addr.mk.injEq] at e
    obtain ⟨⟨rfl, -⟩, -, rfl⟩ := e
    rw [List.take_of_length_le (by simp [hs])] at ht
    have hc : cur = xs.toArray := by rw [← ht]
    rw [← hc]; exact hh
theorem elDeed : ElemT Try.prog 26 74 (.agg #[.slice none 0 0, .int .i64 0, .int .i64 0, .int .i64 0]) 4 48 := ⟨Try.underlying26, info_parts (by kernel_rfl), rfl, by omega⟩

theorem toDeed_any (A : Option Addr) (n c : Nat) (d : DeedD) (w : World) (h : RdI .i64 w w.heap.size A n c d.need) (hn : n ≤ 1048576) :
    Calls Try.prog 136 #[.agg #[.slice A n c, .int .i64 d.on, .int .i64 d.off, .int .i64 d.flip]] w fun e w' => (∃ nv F, e = .returned (.agg #[nv, .int .i64 d.on, .int .i64 d.off, .int .i64 d.flip]) ∧ OwnI w' w.heap.size nv d.need F) ∧ Below w.heap.size w w' := by
  obtain ⟨need, on, off, fl⟩ := d
  simp only at h ⊢
  have hb0 : Below w.heap.size w (((w.alloc (Obj.cells #[.slice A n c, .int .i64 on, .int .i64 off, .int .i64 fl] 130)).alloc (Obj.cells #[.slice none 0 0, .int .i64 0, .int .i64 0, .int .i64 0] 74)).alloc (Obj.cells #[.slice none 0 0, .int .i64 0, .int .i64 0, .int .i64 0] 74)) :=
    (((Below.refl _ _).alloc (Nat.le_refl _) _).alloc (by simp) _).alloc (by simp; omega) _
  have HB0 := Lib.hid hb0
  clear hb0
  go_enter Try.func136, Try.ntmps136
  go_wp2_with fail
  refine (toIntS_own A n c need _ (h.up HB0.out) (by omega)).mono ?_
  rintro e w1 ⟨⟨A1, c1, F, rfl, ho⟩, hb1⟩
  obtain ⟨k0, k1, k2⟩ := blk3 (hb1.mono (by simp))
  have hsz := hb1.size
  simp only [World.size_alloc] at hsz ho
  have a1 : w1.cell? ⟨w.heap.size, 1, none⟩ = some (.int .i64 on) := k0.cell 1
  have a2 : w1.cell? ⟨w.heap.size, 2, none⟩ = some (.int .i64 off) := k0.cell 2
  have a3 : w1.cell? ⟨w.heap.size, 3, none⟩ = some (.int .i64 fl) := k0.cell 3
  have r0 : w1.cell? ⟨w.heap.size + 1, 0, none⟩ = some (.slice none 0 0) := k1.cell 0
  have r1 : w1.cell? ⟨w.heap.size + 1, 1, none⟩ = some (.int .i64 0) := k1.cell 1
  have r2 : w1.cell? ⟨w.heap.size + 1, 2, none⟩ = some (.int .i64 0) := k1.cell 2
  have r3 : w1.cell? ⟨w.heap.size + 1, 3, none⟩ = some (.int .i64 0) := k1.cell 3
  have o0 : w1.cell? ⟨w.heap.size + 2, 0, none⟩ = some (.slice none 0 0) := k2.cell 0
  have o1 : w1.cell? ⟨w.heap.size + 2, 1, none⟩ = some (.int .i64 0) := k2.cell 1
  have o2 : w1.cell? ⟨w.heap.size + 2, 2, none⟩ = some (.int .i64 0) := k2.cell 2
  have o3 : w1.cell? ⟨w.heap.size + 2, 3, none⟩ = some (.int .i64 0) := k2.cell 3
  have fr : ∀ i, w1.frozen? ⟨w.heap.size + 1, i, none⟩ = false := k1.frozen
  have fo : ∀ i, w1.frozen? ⟨w.heap.size + 2, i, none⟩ = false := k2.frozen
  have HB1 := Lib.hid hb1
  clear hb1 k0 k1 k2
  have key : ∀ wf, Only [w.heap.size + 1, w.heap.size + 2] w1 wf → (∃ nv F, Ending.returned (.agg #[.slice A1 n c1, .int .i64 on, .int .i64 off, .int .i64 fl]) = .returned (.agg #[nv, .int .i64 on, .int .i64 off, .int .i64 fl]) ∧ OwnI wf w.heap.size nv need F) ∧ Below w.heap.size w wf := fun wf hon =>
    ⟨⟨_, F, rfl, (ho.keep fun b hb => hon.block b (ho.lt b hb).2 (by have := (ho.lt b hb).1; simp; omega)).mono (by omega)⟩, (HB0.out.trans (HB1.out.mono (by simp; omega))).trans (hon.below (by simp) (by omega))⟩
  have KEY := Lib.hid key
  clear key
  go_wp2
  refine bodyPost_ret (v := .agg #[.slice A1 n c1, .int .i64 on, .int .i64 off, .int .i64 fl]) (by simp [results, Try.results136, go_sem, r0, r1, r2, r3]) rfl (KEY.out _ ?_)
  repeat' (first | with_reducible exact Only.refl _ _ | with_reducible refine Only.set ?_ ?_ _)
  all_goals simp

theorem toDeedS_any (A : Option Addr) (n c : Nat) (ds : List DeedD) (w : World) (h : RdDs w w.heap.size A n c ds) :
    Calls Try.prog 88 #[.slice A n c] w fun e w' => (∃ v F cells Fs, e = .returned v ∧ OwnDs w' w.heap.size v ds F cells Fs ∧ F.Nodup) ∧ Below w.heap.size w w' := by
  have hl := h.len
  have hsm := h.small
  obtain ⟨i0, hi, hz0, hz1, hz2⟩ := elDeed.hi
  have HL := Lib.hid hl; clear hl
  go_enter Try.func88, Try.ntmps88
  go_wp2_with (at_make; refine wpList_make_full _ rfl _ _ 26 rfl w.heap.size 74 i0 _ 4 Try.underlying26 hi hz0 hz1 _ _ _ _ n rfl rfl rfl rfl (by rw [hz2]; omega) (by unfold maxLen; omega) (Nat.le_refl _) ?_; intro w1 hown hgr)
  have hb1 : Below w.heap.size w w1 := (Below.refl _ _).grown hgr (Nat.le_refl _) (by simp)
  have hp : PartDs w1 w.heap.size ds 0 _ [] := ⟨own_blk_full hown, by rw [hown.1, HL.out], rfl, fun i d Fi _ hF => by simp at hF, by simp⟩
  have HB := Lib.hid hb1
  clear hb1 hown hgr
  go_wp2
  go_loopw [4] (fun i wr => ∃ (k : Nat) (cells : List Value) (Fs : List (List Nat)), k ≤ n ∧ i = .int .i64 k ∧ PartDs wr w.heap.size ds k cells Fs ∧ Below w.heap.size w wr) (fun i _ => n - (intOf i).toNat)
  case atStart => exact ⟨0, _, _, by omega, rfl, hp, HB.out⟩
  case round =>
    obtain ⟨k, cells, Fs, hk, rfl, hpt, hbel⟩ := hrel
    by_cases hlt : k < n
    · obtain ⟨b, off, d, rfl, hb, hd, hda⟩ := h.get hlt
      obtain ⟨An, nn, cn, q0, q1, q2, q3, hneed, hnn, hw1, hw2, hw3⟩ := (hda.keep hb (bcells hbel))
      have hnl := hneed.len
      have HD := Lib.hid hd
      have HNL := Lib.hid hnl
      clear hd hda hnl
      go_wp2_with fail
      refine (toDeed_any An nn cn d _ (hneed.more hbel.size) hnn).mono ?_
      rintro e w2 ⟨⟨nv, F, rfl, ho⟩, hb2⟩
      have hblk2 := hpt.blk.below hb2 hpt.blk.lt
      have hsz2 := hb2.size
      have hgl := hpt.blk.lt
      have hcl := hpt.clen
      have HCL : Hid (cells.length = n * 4) := Lib.hid (by rw [hcl, HL.out])
      have cex : ∀ j, j < n * 4 → ∃ v, w2.cell? ⟨w.heap.size, j, none⟩ = some v := fun j hj => ⟨cells[j]'(by rw [HCL.out]; exact hj), by rw [hblk2.cell]; simp⟩
      obtain ⟨v0, c0⟩ := cex (k * 4) (by omega)
      obtain ⟨v1, c1⟩ := cex (k * 4 + 1) (by omega)
      obtain ⟨v2, c2⟩ := cex (k * 4 + 2) (by omega)
      obtain ⟨v3, c3⟩ := cex (k * 4 + 3) (by omega)
      have fr : ∀ i, w2.frozen? ⟨w.heap.size, i, none⟩ = false := hblk2.frozen
      obtain ⟨A5, c5, hnv⟩ := own_form ho.row
      have HSD := Lib.hid (setD_blk hblk2 k nv d)
      have HNEXT : Hid (∀ w3, Blk w3 w.heap.size 74 (setD cells k nv d).toArray → (∀ b, b ≠ w.heap.size → b < w2.heap.size → w3.heap[b]? = w2.heap[b]?) → PartDs w3 w.heap.size ds (k + 1) (setD cells k nv d) (Fs ++ [F])) :=
        Lib.hid fun w3 h1 h2 => hpt.next d HD.out nv F hb2 ho (by rw [HNL.out]; exact hnn) ⟨hw1, hw2, hw3⟩ h1 h2
      have HBB := Lib.hid (hbel.trans (hb2.mono hbel.size))
      subst hnv
      clear cex hcl hblk2 ho hb2 q0 q1 q2 q3 hpt
      go_wp2
      go_roundw
      case rel =>
        refine ⟨k + 1, _, _, by omega, by go_num, HNEXT.out _ HSD.out ?_, ?_⟩
        · intro b hne _
          rw [Below.heap_setCell _ _ _ _ hne, Below.heap_setCell _ _ _ _ hne, Below.heap_setCell _ _ _ _ hne, Below.heap_setCell _ _ _ _ hne]
        · exact (((HBB.out.setCell (Nat.le_refl _) _).setCell (Nat.le_refl _) _).setCell (Nat.le_refl _) _).setCell (Nat.le_refl _) _
      case measure => simp [intOf]; omega
    · have hkn : k = n := by omega
      have HK := Lib.hid hkn
      clear hkn
      have HDONE : Hid (∃ F cells Fs, OwnDs wr w.heap.size (.slice (some ⟨w.heap.size, 0, none⟩) n n) ds F cells Fs ∧ F.Nodup) := Lib.hid (by
        have h1 : PartDs wr w.heap.size ds ds.length cells Fs := by rw [HL.out, ← HK.out]; exact hpt
        have h2 := h1.done (by rw [HL.out]; exact hsm) (Nat.le_refl _)
        rw [HL.out] at h2
        exact ⟨_, _, _, h2.1, h2.2⟩)
      go_wp2
      go_ret
      obtain ⟨F, cells, Fs, h1, h2⟩ := HDONE.out
      exact ⟨⟨_, F, cells, Fs, rfl, h1, h2⟩, hbel⟩

theorem toTask_any (v : Value) (t : TaskD) (w : World) (h : RdT w w.heap.size v t) :
    Calls Try.prog 26 #[v] w fun e w' => (∃ v' F, e = .returned v' ∧ OwnT w' w.heap.size v' t F ∧ F.Nodup) ∧ Below w.heap.size w w' := by
  obtain ⟨A, n, c, A', n', c', rfl, hg, hgs, hds, hst⟩ := h
  have hnl := hg.len
  have hb0 : Below w.heap.size w (((w.alloc (Obj.cells #[.int .i64 t.start, .slice A n c, .slice A' n' c'] 39)).alloc (Obj.cells #[.int .i64 0, .slice none 0 0, .slice none 0 0] 28)).alloc (Obj.cells #[.int .i64 t.start, .slice none 0 0, .slice none 0 0] 28)) :=
    (((Below.refl _ _).alloc (Nat.le_refl _) _).alloc (by simp) _).alloc (by simp; omega) _
  have HB0 := Lib.hid hb0
  have HNL := Lib.hid hnl
  clear hb0 hnl
  go_enter Try.func26, Try.ntmps26
  go_wp2_with fail
  refine (toIntS_own A n c t.goal _ (hg.up HB0.out) (by omega)).mono ?_
  rintro e w1 ⟨⟨A1, c1, F1, rfl, ho1⟩, hb1⟩
  obtain ⟨k0, k1, k2⟩ := blk3 (hb1.mono (by simp))
  have hsz := hb1.size
  simp only [World.size_alloc] at hsz ho1
  have a2 : w1.cell? ⟨w.heap.size, 2, none⟩ = some (.slice A' n' c') := k0.cell 2
  have o1 : w1.cell? ⟨w.heap.size + 2, 1, none⟩ = some (.slice none 0 0) := k2.cell 1
  have fo : ∀ i, w1.frozen? ⟨w.heap.size + 2, i, none⟩ = false := k2.frozen
  have hbA : Below w.heap.size w w1 := HB0.out.trans (hb1.mono (by simp; omega))
  have hbS : Below w.heap.size w (w1.setCell ⟨w.heap.size + 2, 1, none⟩ (.slice A1 n c1)) := hbA.setCell (by simp) _
  have hdsr := hds.up hbS
  have HBA := Lib.hid hbA
  have k0' := k0.far (p := ⟨w.heap.size + 2, 1, none⟩) (by simp) (.slice A1 n c1)
  have k1' := k1.far (p := ⟨w.heap.size + 2, 1, none⟩) (by simp) (.slice A1 n c1)
  have k2' := k2.set_ 1 (.slice A1 n c1)
  have hoS : OwnI (w1.setCell ⟨w.heap.size + 2, 1, none⟩ (.slice A1 n c1)) (w.heap.size + 1 + 1 + 1) (.slice A1 n c1) t.goal F1 := ho1.keep fun b hb => Below.heap_setCell _ _ _ _ (by have := (ho1.lt b hb).1; simp; omega)
  have HDSR := Lib.hid hdsr
  clear hb1 hbA hdsr k0 k1 k2 ho1
  go_wp2_with fail
  refine (toDeedS_any A' n' c' t.deeds _ HDSR.out).mono ?_
  rintro e w2 ⟨⟨v2, F2, cells, Fs, rfl, ho2, hnd2⟩, hb2⟩
  have hsz2 := hb2.size
  have hszs : (w1.setCell ⟨w.heap.size + 2, 1, none⟩ (.slice A1 n c1)).heap.size = w1.heap.size := by simp [World.setCell]
  rw [hszs] at hsz2
  have l1 := k1'.below hb2 k1'.lt
  have l2 := k2'.below hb2 k2'.lt
  have r0 : w2.cell? ⟨w.heap.size + 1, 0, none⟩ = some (.int .i64 0) := l1.cell 0
  have r1 : w2.cell? ⟨w.heap.size + 1, 1, none⟩ = some (.slice none 0 0) := l1.cell 1
  have r2 : w2.cell? ⟨w.heap.size + 1, 2, none⟩ = some (.slice none 0 0) := l1.cell 2
  have s0 : w2.cell? ⟨w.heap.size + 2, 0, none⟩ = some (.int .i64 t.start) := l2.cell 0
  have s1 : w2.cell? ⟨w.heap.size + 2, 1, none⟩ = some (.slice A1 n c1) := l2.cell 1
  have s2 : w2.cell? ⟨w.heap.size + 2, 2, none⟩ = some (.slice none 0 0) := l2.cell 2
  have g1 : ∀ i, w2.frozen? ⟨w.heap.size + 1, i, none⟩ = false := l1.frozen
  have g2 : ∀ i, w2.frozen? ⟨w.heap.size + 2, i, none⟩ = false := l2.frozen
  obtain ⟨A5, c5, hv2⟩ := own_form ho2.row
  have hoI : OwnI w2 (w.heap.size + 1 + 1 + 1) (.slice A1 n c1) t.goal F1 := hoS.below hb2
  have hlt1 := hoS.lt
  have hlt2 := ho2.lt
  rw [hszs] at hlt2
  have key : ∀ wf, Only [w.heap.size + 1, w.heap.size + 2] w2 wf → (∃ v' F, Ending.returned (.agg #[.int .i64 t.start, .slice A1 n c1, v2]) = .returned v' ∧ OwnT wf w.heap.size v' t F ∧ F.Nodup) ∧ Below w.heap.size w wf := fun wf hon => by
    refine ⟨⟨_, F1 ++ F2, rfl, ⟨_, _, F1, F2, cells, Fs, rfl, (hoI.keep fun b hb => hon.block b (hoI.lt b hb).2 (by have := (hoI.lt b hb).1; simp; omega)).mono (by omega), by rw [HNL.out]; exact hgs, (ho2.keep fun b hb => hon.block b (ho2.lt b hb).2 (by have := (hlt2 b hb).1; simp; omega)).mono (by rw [hszs]; omega), rfl, hst⟩, ?_⟩, ?_⟩
    · rw [List.nodup_append]
      refine ⟨hoI.nodup, hnd2, fun a ha b hb => ?_⟩
      have h1 := (hlt1 a ha).2
      have h2 := (hlt2 b hb).1
      rw [hszs] at h1
      omega
    · exact ((HBA.out.setCell (by simp) _).trans (hb2.mono (by rw [hszs]; omega))).trans (hon.below (by simp) (by omega))
  have KEY := Lib.hid key
  subst hv2
  clear key hb2 hoS hbS hoI ho2 hlt1 hlt2 hszs l1 l2 k0' k1' k2' hnd2
  go_wp2
  refine bodyPost_ret (v := .agg #[.int .i64 t.start, .slice A1 n c1, .slice A5 t.deeds.length c5]) (by simp [results, Try.results26, go_sem, r0, r1, r2]) rfl (KEY.out _ ?_)
  repeat' (first | with_reducible exact Only.refl _ _ | with_reducible refine Only.set ?_ ?_ _)
  all_goals simp
end Go.Proofs.Ytpcaagbmjhgnaaa
