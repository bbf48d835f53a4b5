/- Joined texts: Sz, Part, To, Eq. -/
import Derived.Test.YtkmcengmglgdeaaGreatDoorSDeed
import Derived.Test.YtkmcengmglgdeaaGreatDoorSNum
import Derived.StillTailTactics

namespace Go.Proofs.YtkmcengmglgdeaaGreatDoor
set_option linter.unusedVariables false
set_option linter.unusedSimpArgs false
set_option maxRecDepth 100000
set_option maxHeartbeats 8000000
open Go.ChangeShapes Go.WideShapes Go.ChangeAt Go.RowKit
def less (left : Int) (n : Nat) : Int := if (n : Int) ≤ left then left - n else -1
def szD (d : DeedD) : Nat := d.need.length
def szDs (ds : List DeedD) : Nat := ds.length + (ds.map szD).sum
def szT (t : TaskD) : Nat := t.goal.length + szDs t.deeds
theorem less_yes {left : Int} {n : Nat} (h : (n : Int) ≤ left) : less left n = left - n := by unfold less; rw [if_pos h]
theorem less_no {left : Int} {n : Nat} (h : ¬ (n : Int) ≤ left) : less left n = -1 := by unfold less; rw [if_neg h]
theorem szIntS_any (A : Option Addr) (n c : Nat) (left : Int) (w : World) (hn : n ≤ 9223372036854775807) (h0 : 0 ≤ left) (h1 : left ≤ 1048576) :
  Calls Tryz.prog 75 #[.slice A n c, .int .i64 left] w fun e w' => e = .returned (.int .i64 (less left n)) ∧ w = w' := by
 by_cases h : (n : Int) ≤ left
 ·rw [less_yes h]; go_enter Tryz.func75, Tryz.ntmps75; go_wp2; go_ret; exact ⟨rfl, rfl⟩
 ·rw [less_no h]; go_enter Tryz.func75, Tryz.ntmps75; go_wp2; go_ret; exact ⟨rfl, rfl⟩
theorem szDeed_any (A : Option Addr) (n c : Nat) (on off fl left : Int) (w : World) (hn : n ≤ 9223372036854775807) (h0 : 0 ≤ left) (h1 : left ≤ 1048576) :
  Calls Tryz.prog 179 #[.agg #[.slice A n c, .int .i64 on, .int .i64 off, .int .i64 fl], .int .i64 left] w fun e w' => e = .returned (.int .i64 (less left n)) ∧ Below w.heap.size w w' := by
 by_cases h : (n : Int) ≤ left
 ·rw [less_yes h]; go_enter Tryz.func179, Tryz.ntmps179
  go_wp2_with (go_at_call 75; refine (szIntS_any A n c left _ hn h0 h1).mono ?_; rw [less_yes h]; rintro e w' ⟨rfl, rfl⟩)
  go_ret; exact ⟨rfl, (Below.refl _ _).alloc (Nat.le_refl _) _⟩
 ·rw [less_no h]; go_enter Tryz.func179, Tryz.ntmps179
  go_wp2_with (go_at_call 75; refine (szIntS_any A n c left _ hn h0 h1).mono ?_; rw [less_no h]; rintro e w' ⟨rfl, rfl⟩)
  go_ret; exact ⟨rfl, (Below.refl _ _).alloc (Nat.le_refl _) _⟩
theorem sum_take (ds : List DeedD) (k : Nat) (d : DeedD) (hd : ds[k]? = some d) : ((ds.take (k + 1)).map szD).sum = ((ds.take k).map szD).sum + szD d := by
 obtain ⟨hk, he⟩ := List.getElem?_eq_some_iff.1 hd; rw [List.take_succ_eq_append_getElem hk, he]; simp
theorem sum_take_le (ds : List DeedD) (k : Nat) : ((ds.take k).map szD).sum ≤ (ds.map szD).sum := by
 conv => rhs; rw [← List.take_append_drop k ds]
 rw [List.map_append, List.sum_append]; omega
theorem szDeedS_any {M : Nat} (hM : M ≤ 9223372036854775807) (A : Option Addr) (n c : Nat) (ds : List DeedD) (left : Int) (w : World) (h : RdDsM M w w.heap.size A n c ds) (h0 : 0 ≤ left) (h1 : left ≤ 1048576) :
  Calls Tryz.prog 143 #[.slice A n c, .int .i64 left] w fun e w' => e = .returned (.int .i64 (less left (szDs ds))) ∧ Below w.heap.size w w' := by
 have hl := h.len; have hs := h.small; have hsz : szDs ds = n + (ds.map szD).sum := by unfold szDs; rw [hl]
 have HL := Lib.hid hl; have HSZ := Lib.hid hsz; clear hl hsz
 by_cases hn : (n : Int) ≤ left
 case neg =>
  have HV : Hid (less left (szDs ds) = -1) := Lib.hid (less_no (by rw [HSZ.out]; omega)); go_enter Tryz.func143, Tryz.ntmps143; go_wp2; go_ret; exact ⟨ret_int HV.out.symm, Below.refl _ _⟩
 go_enter Tryz.func143, Tryz.ntmps143; go_wp2
 go_loopw [5, 1] (fun i l wr => ∃ (k s : Nat), k ≤ n ∧ i = .int .i64 k ∧ l = .int .i64 (left - n - s) ∧ (s : Int) ≤ left - n ∧ Hid (((ds.take k).map szD).sum = s) ∧ Below w.heap.size w wr) (fun i _ _ => n - (intOf i).toNat)
 case atStart => exact ⟨0, 0, by omega, rfl, by simp, by omega, Lib.hid rfl, Below.refl _ _⟩
 case round =>
  obtain ⟨k, s, hk, rfl, rfl, hsl, hsum, hbel⟩ := hrel
  by_cases hlt : k < n
  ·obtain ⟨b, off, d, rfl, hb, hd, hda⟩ := h.get hlt; obtain ⟨An, nn, cn, q0, q1, q2, q3, hneed, hnn, -⟩ := (hda.keep hb (bcells hbel)); have hst := sum_take ds k d hd; rw [hsum.out] at hst; have hdn : szD d = nn := hneed.len; rw [hdn] at hst; have HST := Lib.hid hst; clear hd hda hst hdn
   go_wp2_with fail
   refine (szDeed_any An nn cn _ _ _ _ _ (by omega) (by omega) (by omega)).mono ?_
   by_cases hnx : (nn : Int) ≤ left - n - s
   ·rw [less_yes hnx]; rintro e w2 ⟨rfl, hb2⟩; have hbel2 := hbel.trans (hb2.mono hbel.size); go_wp2
    go_roundw
    case rel => exact ⟨k + 1, s + nn, by omega, by go_num, by congr 1; omega, by omega, Lib.hid HST.out, hbel2⟩
    case measure => simp [intOf]; omega
   ·rw [less_no hnx]; rintro e w2 ⟨rfl, hb2⟩; have hbel2 := hbel.trans (hb2.mono hbel.size)
    have HV : Hid (less left (szDs ds) = -1) := Lib.hid (less_no (by
     rw [HSZ.out]
     have := sum_take_le ds (k + 1)
     rw [HST.out] at this
     omega))
    go_wp2; go_ret; exact ⟨ret_int HV.out.symm, hbel2⟩
  ·have hkn : k = n := by omega
   have hsm := hsum.out; rw [hkn, ← HL.out, List.take_length] at hsm; have HV : Hid (less left (szDs ds) = left - n - s) := Lib.hid (by rw [HSZ.out, hsm, less_yes (by omega)]; omega); clear hsm hkn; go_wp2; go_ret; exact ⟨ret_int HV.out.symm, hbel⟩
theorem szTask_any {M : Nat} (hM : M ≤ 9223372036854775807) (v : Value) (t : TaskD) (left : Int) (w : World) (h : RdTM M w w.heap.size v t) (h0 : 0 ≤ left) (h1 : left ≤ 1048576) :
  Calls Tryz.prog 74 #[v, .int .i64 left] w fun e w' => e = .returned (.int .i64 (less left (szT t))) ∧ Below w.heap.size w w' := by
 obtain ⟨A, n, c, A', n', c', rfl, hg, hgs, hds, hst⟩ := h; have hb0 : Below w.heap.size w (w.alloc (Obj.cells #[.int .i64 t.start, .slice A n c, .slice A' n' c'] 40)) := (Below.refl _ _).alloc (Nat.le_refl _) _; have HDS := Lib.hid (hds.up hb0); have hsz : szT t = n + szDs t.deeds := by unfold szT; rw [hg.len]
 have HSZ := Lib.hid hsz; clear hsz
 by_cases hn : (n : Int) ≤ left
 ·go_enter Tryz.func74, Tryz.ntmps74
  go_wp2_with fail
  refine (szIntS_any A n c left _ (by omega) h0 h1).mono ?_; rw [less_yes hn]; rintro e w' ⟨rfl, rfl⟩
  go_wp2_with fail
  refine (szDeedS_any hM A' n' c' t.deeds _ _ HDS.out (by omega) (by omega)).mono ?_
  by_cases h2 : ((szDs t.deeds : Nat) : Int) ≤ left - n
  ·rw [less_yes h2]; have HV : Hid (less left (szT t) = left - n - (szDs t.deeds : Nat)) := Lib.hid (by rw [HSZ.out, less_yes (by omega)]; omega)
   generalize szDs t.deeds = z at *
   rintro e w2 ⟨rfl, hb2⟩; go_wp2; go_ret; exact ⟨ret_int HV.out.symm, hb0.trans (hb2.mono hb0.size)⟩
  ·rw [less_no h2]; have HV : Hid (less left (szT t) = -1) := Lib.hid (less_no (by rw [HSZ.out]; omega)); rintro e w2 ⟨rfl, hb2⟩; go_wp2; go_ret; exact ⟨ret_int HV.out.symm, hb0.trans (hb2.mono hb0.size)⟩
 ·have HV : Hid (less left (szT t) = -1) := Lib.hid (less_no (by rw [HSZ.out]; omega)); go_enter Tryz.func74, Tryz.ntmps74
  go_wp2_with fail
  refine (szIntS_any A n c left _ (by omega) h0 h1).mono ?_; rw [less_no (show ¬ (n : Int) ≤ left by omega)]; rintro e w' ⟨rfl, rfl⟩; go_wp2; go_ret; exact ⟨ret_int HV.out.symm, hb0⟩
def setD (cells : List Value) (k : Nat) (nv : Value) (d : DeedD) : List Value :=
 (((cells.set (k * 4) nv).set (k * 4 + 1) (.int .i64 d.on)).set (k * 4 + 2) (.int .i64 d.off)).set (k * 4 + 3) (.int .i64 d.flip)
theorem setD_len (cells : List Value) (k : Nat) (nv : Value) (d : DeedD) : (setD cells k nv d).length = cells.length := by simp [setD]
theorem setD_other (cells : List Value) (k : Nat) (nv : Value) (d : DeedD) (j : Nat) (h : j < k * 4 ∨ k * 4 + 4 ≤ j) : (setD cells k nv d)[j]? = cells[j]? := by
 unfold setD
 rw [List.getElem?_set_ne (by omega), List.getElem?_set_ne (by omega), List.getElem?_set_ne (by omega), List.getElem?_set_ne (by omega)]
theorem setD_at (cells : List Value) (k : Nat) (nv : Value) (d : DeedD) (h : k * 4 + 3 < cells.length) :
  (setD cells k nv d)[k * 4]? = some nv ∧ (setD cells k nv d)[k * 4 + 1]? = some (.int .i64 d.on) ∧ (setD cells k nv d)[k * 4 + 2]? = some (.int .i64 d.off) ∧ (setD cells k nv d)[k * 4 + 3]? = some (.int .i64 d.flip) := by
 unfold setD
 refine ⟨?_, ?_, ?_, ?_⟩
 ·rw [List.getElem?_set_ne (by omega), List.getElem?_set_ne (by omega), List.getElem?_set_ne (by omega), List.getElem?_set_self (by omega)]
 ·rw [List.getElem?_set_ne (by omega), List.getElem?_set_ne (by omega), List.getElem?_set_self (by simp; omega)]
 ·rw [List.getElem?_set_ne (by omega), List.getElem?_set_self (by simp; omega)]
 ·rw [List.getElem?_set_self (by simp; omega)]
theorem setD_blk {w : World} {g : Nat} {t : TypeId} {cells : List Value} (h : Blk w g t cells.toArray) (k : Nat) (nv : Value) (d : DeedD) :
  Blk ((((w.setCell ⟨g, k * 4, none⟩ nv).setCell ⟨g, k * 4 + 1, none⟩ (.int .i64 d.on)).setCell ⟨g, k * 4 + 2, none⟩ (.int .i64 d.off)).setCell ⟨g, k * 4 + 3, none⟩ (.int .i64 d.flip)) g t (setD cells k nv d).toArray := by
 have := (((h.set_ (k * 4) nv).set_ (k * 4 + 1) (.int .i64 d.on)).set_ (k * 4 + 2) (.int .i64 d.off)).set_ (k * 4 + 3) (.int .i64 d.flip)
 simpa [setD] using this
structure PartDs (w : World) (g : Nat) (ds : List DeedD) (k : Nat) (cells : List Value) (Fs : List (List Nat)) : Prop where
 blk : Blk w g 144 cells.toArray
 clen : cells.length = ds.length * 4
 flen : Fs.length = k
 deed : ∀ (i : Nat) d Fi, ds[i]? = some d → Fs[i]? = some Fi → OwnD w (g + 1) cells i d Fi
 nodup : Fs.flatten.Nodup
theorem PartDs.lt {w : World} {g : Nat} {ds : List DeedD} {k : Nat} {cells : List Value} {Fs : List (List Nat)} (h : PartDs w g ds k cells Fs) (hk : k ≤ ds.length) : ∀ b ∈ Fs.flatten, g + 1 ≤ b ∧ b < w.heap.size := fun b hb => by
 obtain ⟨Fi, hF, hb⟩ := List.mem_flatten.1 hb; obtain ⟨i, hi⟩ := List.mem_iff_getElem?.1 hF; have hl : i < ds.length := by have := (List.getElem?_eq_some_iff.1 hi).1; have := h.flen; omega
 obtain ⟨nv, _, _, _, _, h4, _⟩ := h.deed i _ _ (List.getElem?_eq_getElem hl) hi; exact h4.lt b hb
theorem PartDs.keep {w w' : World} {g : Nat} {ds : List DeedD} {k : Nat} {cells : List Value} {Fs : List (List Nat)} (h : PartDs w g ds k cells Fs) (hk : k ≤ ds.length) (hb : Below w.heap.size w w') : PartDs w' g ds k cells Fs :=
 ⟨h.blk.below hb h.blk.lt, h.clen, h.flen, fun i d Fi hd hF => (h.deed i d Fi hd hF).keep fun b hx => hb.block b (h.lt hk b (mem_flat hF hx)).2, h.nodup⟩
theorem PartDs.next {w w2 w3 : World} {g : Nat} {ds : List DeedD} {k : Nat} {cells : List Value} {Fs : List (List Nat)} (h : PartDs w g ds k cells Fs) (d : DeedD) (hd : ds[k]? = some d) (nv : Value) (F : List Nat)
  (hb : Below w.heap.size w w2) (ho : OwnI w2 w.heap.size nv d.need F) (hs : d.need.length ≤ 1048576) (hwf : (Lit.int .i64 d.on).wf = true ∧ (Lit.int .i64 d.off).wf = true ∧ (Lit.int .i64 d.flip).wf = true)
  (hblk : Blk w3 g 144 (setD cells k nv d).toArray) (hon : ∀ b, b ≠ g → b < w2.heap.size → w3.heap[b]? = w2.heap[b]?) : PartDs w3 g ds (k + 1) (setD cells k nv d) (Fs ++ [F]) := by
 have hk : k < ds.length := (List.getElem?_eq_some_iff.1 hd).1; have h2 := h.keep (by omega) hb; have hgl := h.blk.lt
 have hkF : ∀ b ∈ Fs.flatten, w3.heap[b]? = w2.heap[b]? := fun b hx => by
  have := h2.lt (by omega) b hx
  exact hon b (by omega) this.2
 refine ⟨hblk, by rw [setD_len]; exact h.clen, by simp [h.flen], fun i e Fi he hF => ?_, ?_⟩
 ·rcases Nat.lt_or_ge i k with hi | hi
  ·rw [List.getElem?_append_left (by rw [h.flen]; exact hi)] at hF; obtain ⟨nv', q0, q1, q2, q3, q4, r⟩ := h2.deed i e Fi he hF; refine ⟨nv', ?_, ?_, ?_, ?_, q4.keep fun b hx => hkF b (mem_flat hF hx), r⟩
   ·rw [setD_other _ _ _ _ _ (by omega)]; exact q0
   ·rw [setD_other _ _ _ _ _ (by omega)]; exact q1
   ·rw [setD_other _ _ _ _ _ (by omega)]; exact q2
   ·rw [setD_other _ _ _ _ _ (by omega)]; exact q3
  ·have hik : i = k := by
    have := (List.getElem?_eq_some_iff.1 hF).1
    simp [h.flen] at this
    omega
   subst hik
   have := he.symm.trans hd
   injection this with this
   subst this; rw [List.getElem?_append_right (by rw [h.flen]; exact Nat.le_refl _), h.flen, Nat.sub_self] at hF; simp only [List.getElem?_cons_zero, Option.some.injEq] at hF; subst hF; obtain ⟨q0, q1, q2, q3⟩ := setD_at cells i nv e (by rw [h.clen]; omega); refine ⟨nv, q0, q1, q2, q3, (ho.keep fun b hx => hon b ?_ (ho.lt b hx).2).mono (by omega), hs, hwf⟩
   have := (ho.lt b hx).1
   omega
 ·rw [List.flatten_append, List.nodup_append]; refine ⟨h.nodup, by simpa using ho.nodup, fun a ha b hb' => ?_⟩; have h1 := (h.lt (by omega) a ha).2; have h3 := (ho.lt b (by simpa using hb')).1
  omega
theorem PartDs.done {w : World} {g : Nat} {ds : List DeedD} {cells : List Value} {Fs : List (List Nat)} (h : PartDs w g ds ds.length cells Fs) (hs : ds.length ≤ 1048576) {lo : Nat} (hlo : lo ≤ g) :
  OwnDs w lo (.slice (some ⟨g, 0, none⟩) ds.length ds.length) ds (g :: Fs.flatten) cells Fs ∧ (g :: Fs.flatten).Nodup :=
 ⟨⟨⟨h.clen, .inr ⟨g, ds.length, cells.toArray, rfl, hlo, h.blk, Nat.le_refl _, by unfold maxLen; omega, by simpa using h.clen, by rw [List.take_of_length_le (by simpa using (Nat.le_of_eq h.clen))]⟩⟩, hs, h.flen, rfl, fun i d Fi hd hF => by
   obtain ⟨nv, q0, q1, q2, q3, q4, r⟩ := h.deed i d Fi hd hF
   exact ⟨nv, q0, q1, q2, q3, q4.mono (by omega), r⟩⟩, List.nodup_cons.2 ⟨fun hx => by have := (h.lt (Nat.le_refl _) g hx).1; omega, h.nodup⟩⟩
theorem toIntS_own (A : Option Addr) (n c : Nat) (xs : List Int) (w : World) (h : RdI .i64 w w.heap.size A n c xs) (hn : n ≤ 1099511627776) :
  Calls Tryz.prog 77 #[.slice A n c] w fun e w' => (∃ A' c' F, e = .returned (.slice A' n c') ∧ OwnI w' w.heap.size (.slice A' n c') xs F) ∧ Below w.heap.size w w' :=
 (toIntS_any A n c xs w h hn).mono fun e w' ⟨he, ho, hb⟩ => ⟨⟨_, _, _, he, ⟨by have := h.len; subst this; exact ho, h.wf, rfl⟩⟩, hb⟩
theorem own_blk_full {w : World} {base g : Nat} {e : TypeId} {size n : Nat} {xs : List Value} (h : w.ownsRow base e size (.slice (some ⟨g, 0, none⟩) n n) n xs) : Blk w g e xs.toArray := by
 rcases h.2 with ⟨e, -⟩ | ⟨g', cap, cur, e, -, hh, -, -, hs, ht⟩
 ·cases e
 ·simp only [Value.slice.injEq, Option.some.injEq, Addr.mk.injEq] at e; obtain ⟨⟨rfl, -⟩, -, rfl⟩ := e; rw [List.take_of_length_le (by simp [hs])] at ht; have hc : cur = xs.toArray := by rw [← ht]
  rw [← hc]; exact hh
theorem elDeed : ElemT Tryz.prog 24 144 (.agg #[.slice none 0 0, .int .i64 0, .int .i64 0, .int .i64 0]) 4 48 := ⟨Tryz.underlying24, info_parts (by kernel_rfl), rfl, by omega⟩
theorem toDeed_any (A : Option Addr) (n c : Nat) (d : DeedD) (w : World) (h : RdI .i64 w w.heap.size A n c d.need) (hn : n ≤ 1048576) :
  Calls Tryz.prog 180 #[.agg #[.slice A n c, .int .i64 d.on, .int .i64 d.off, .int .i64 d.flip]] w fun e w' => (∃ nv F, e = .returned (.agg #[nv, .int .i64 d.on, .int .i64 d.off, .int .i64 d.flip]) ∧ OwnI w' w.heap.size nv d.need F) ∧ Below w.heap.size w w' := by
 obtain ⟨need, on, off, fl⟩ := d
 simp only at h ⊢
 have hb0 : Below w.heap.size w (((w.alloc (Obj.cells #[.slice A n c, .int .i64 on, .int .i64 off, .int .i64 fl] 172)).alloc (Obj.cells #[.slice none 0 0, .int .i64 0, .int .i64 0, .int .i64 0] 144)).alloc (Obj.cells #[.slice none 0 0, .int .i64 0, .int .i64 0, .int .i64 0] 144)) :=
  (((Below.refl _ _).alloc (Nat.le_refl _) _).alloc (by simp) _).alloc (by simp; omega) _
 have HB0 := Lib.hid hb0; clear hb0; go_enter Tryz.func180, Tryz.ntmps180
 go_wp2_with fail
 refine (toIntS_own A n c need _ (h.up HB0.out) (by omega)).mono ?_; rintro e w1 ⟨⟨A1, c1, F, rfl, ho⟩, hb1⟩; obtain ⟨k0, k1, k2⟩ := blk3 (hb1.mono (by simp)); have hsz := hb1.size; simp only [World.size_alloc] at hsz ho; have a1 : w1.cell? ⟨w.heap.size, 1, none⟩ = some (.int .i64 on) := k0.cell 1; have a2 : w1.cell? ⟨w.heap.size, 2, none⟩ = some (.int .i64 off) := k0.cell 2; have a3 : w1.cell? ⟨w.heap.size, 3, none⟩ = some (.int .i64 fl) := k0.cell 3; have r0 : w1.cell? ⟨w.heap.size + 1, 0, none⟩ = some (.slice none 0 0) := k1.cell 0; have r1 : w1.cell? ⟨w.heap.size + 1, 1, none⟩ = some (.int .i64 0) := k1.cell 1; have r2 : w1.cell? ⟨w.heap.size + 1, 2, none⟩ = some (.int .i64 0) := k1.cell 2; have r3 : w1.cell? ⟨w.heap.size + 1, 3, none⟩ = some (.int .i64 0) := k1.cell 3; have o0 : w1.cell? ⟨w.heap.size + 2, 0, none⟩ = some (.slice none 0 0) := k2.cell 0; have o1 : w1.cell? ⟨w.heap.size + 2, 1, none⟩ = some (.int .i64 0) := k2.cell 1; have o2 : w1.cell? ⟨w.heap.size + 2, 2, none⟩ = some (.int .i64 0) := k2.cell 2; have o3 : w1.cell? ⟨w.heap.size + 2, 3, none⟩ = some (.int .i64 0) := k2.cell 3; have fr : ∀ i, w1.frozen? ⟨w.heap.size + 1, i, none⟩ = false := k1.frozen; have fo : ∀ i, w1.frozen? ⟨w.heap.size + 2, i, none⟩ = false := k2.frozen; have HB1 := Lib.hid hb1; clear hb1 k0 k1 k2
 have key : ∀ wf, Only [w.heap.size + 1, w.heap.size + 2] w1 wf → (∃ nv F, Ending.returned (.agg #[.slice A1 n c1, .int .i64 on, .int .i64 off, .int .i64 fl]) = .returned (.agg #[nv, .int .i64 on, .int .i64 off, .int .i64 fl]) ∧ OwnI wf w.heap.size nv need F) ∧ Below w.heap.size w wf := fun wf hon =>
  ⟨⟨_, F, rfl, (ho.keep fun b hb => hon.block b (ho.lt b hb).2 (by have := (ho.lt b hb).1; simp; omega)).mono (by omega)⟩, (HB0.out.trans (HB1.out.mono (by simp; omega))).trans (hon.below (by simp) (by omega))⟩
 have KEY := Lib.hid key; clear key; go_wp2; refine bodyPost_ret (v := .agg #[.slice A1 n c1, .int .i64 on, .int .i64 off, .int .i64 fl]) (by simp [results, Tryz.results180, go_sem, r0, r1, r2, r3]) rfl (KEY.out _ ?_)
 repeat' (first | with_reducible exact Only.refl _ _ | with_reducible refine Only.set ?_ ?_ _)
 all_goals simp
theorem toDeedS_any (A : Option Addr) (n c : Nat) (ds : List DeedD) (w : World) (h : RdDs w w.heap.size A n c ds) :
  Calls Tryz.prog 144 #[.slice A n c] w fun e w' => (∃ v F cells Fs, e = .returned v ∧ OwnDs w' w.heap.size v ds F cells Fs ∧ F.Nodup) ∧ Below w.heap.size w w' := by
 have hl := h.len; have hsm := h.small; obtain ⟨i0, hi, hz0, hz1, hz2⟩ := elDeed.hi; have HL := Lib.hid hl; clear hl; go_enter Tryz.func144, Tryz.ntmps144
 go_wp2_with (at_make; refine wpList_make_full _ rfl _ _ 24 rfl w.heap.size 144 i0 _ 4 Tryz.underlying24 hi hz0 hz1 _ _ _ _ n rfl rfl rfl rfl (by rw [hz2]; omega) (by unfold maxLen; omega) (Nat.le_refl _) ?_; intro w1 hown hgr)
 have hb1 : Below w.heap.size w w1 := (Below.refl _ _).grown hgr (Nat.le_refl _) (by simp); have hp : PartDs w1 w.heap.size ds 0 _ [] := ⟨own_blk_full hown, by rw [hown.1, HL.out], rfl, fun i d Fi _ hF => by simp at hF, by simp⟩; have HB := Lib.hid hb1; clear hb1 hown hgr; go_wp2
 go_loopw [4] (fun i wr => ∃ (k : Nat) (cells : List Value) (Fs : List (List Nat)), k ≤ n ∧ i = .int .i64 k ∧ PartDs wr w.heap.size ds k cells Fs ∧ Below w.heap.size w wr) (fun i _ => n - (intOf i).toNat)
 case atStart => exact ⟨0, _, _, by omega, rfl, hp, HB.out⟩
 case round =>
  obtain ⟨k, cells, Fs, hk, rfl, hpt, hbel⟩ := hrel
  by_cases hlt : k < n
  ·obtain ⟨b, off, d, rfl, hb, hd, hda⟩ := h.get hlt; obtain ⟨An, nn, cn, q0, q1, q2, q3, hneed, hnn, hw1, hw2, hw3⟩ := (hda.keep hb (bcells hbel)); have hnl := hneed.len; have HD := Lib.hid hd; have HNL := Lib.hid hnl; clear hd hda hnl
   go_wp2_with fail
   refine (toDeed_any An nn cn d _ (hneed.more hbel.size) hnn).mono ?_; rintro e w2 ⟨⟨nv, F, rfl, ho⟩, hb2⟩; have hblk2 := hpt.blk.below hb2 hpt.blk.lt; have hsz2 := hb2.size; have hgl := hpt.blk.lt; have hcl := hpt.clen; have HCL : Hid (cells.length = n * 4) := Lib.hid (by rw [hcl, HL.out]); have cex : ∀ j, j < n * 4 → ∃ v, w2.cell? ⟨w.heap.size, j, none⟩ = some v := fun j hj => ⟨cells[j]'(by rw [HCL.out]; exact hj), by rw [hblk2.cell]; simp⟩
   obtain ⟨v0, c0⟩ := cex (k * 4) (by omega); obtain ⟨v1, c1⟩ := cex (k * 4 + 1) (by omega); obtain ⟨v2, c2⟩ := cex (k * 4 + 2) (by omega); obtain ⟨v3, c3⟩ := cex (k * 4 + 3) (by omega); have fr : ∀ i, w2.frozen? ⟨w.heap.size, i, none⟩ = false := hblk2.frozen; obtain ⟨A5, c5, hnv⟩ := own_form ho.row; have HSD := Lib.hid (setD_blk hblk2 k nv d)
   have HNEXT : Hid (∀ w3, Blk w3 w.heap.size 144 (setD cells k nv d).toArray → (∀ b, b ≠ w.heap.size → b < w2.heap.size → w3.heap[b]? = w2.heap[b]?) → PartDs w3 w.heap.size ds (k + 1) (setD cells k nv d) (Fs ++ [F])) :=
    Lib.hid fun w3 h1 h2 => hpt.next d HD.out nv F hb2 ho (by rw [HNL.out]; exact hnn) ⟨hw1, hw2, hw3⟩ h1 h2
   have HBB := Lib.hid (hbel.trans (hb2.mono hbel.size)); subst hnv; clear cex hcl hblk2 ho hb2 q0 q1 q2 q3 hpt; go_wp2
   go_roundw
   case rel =>
    refine ⟨k + 1, _, _, by omega, by go_num, HNEXT.out _ HSD.out ?_, ?_⟩
    ·intro b hne _; rw [Below.heap_setCell _ _ _ _ hne, Below.heap_setCell _ _ _ _ hne, Below.heap_setCell _ _ _ _ hne, Below.heap_setCell _ _ _ _ hne]
    ·exact (((HBB.out.setCell (Nat.le_refl _) _).setCell (Nat.le_refl _) _).setCell (Nat.le_refl _) _).setCell (Nat.le_refl _) _
   case measure => simp [intOf]; omega
  ·have hkn : k = n := by omega
   have HK := Lib.hid hkn; clear hkn
   have HDONE : Hid (∃ F cells Fs, OwnDs wr w.heap.size (.slice (some ⟨w.heap.size, 0, none⟩) n n) ds F cells Fs ∧ F.Nodup) := Lib.hid (by
    have h1 : PartDs wr w.heap.size ds ds.length cells Fs := by rw [HL.out, ← HK.out]; exact hpt
    have h2 := h1.done (by rw [HL.out]; exact hsm) (Nat.le_refl _); rw [HL.out] at h2
    exact ⟨_, _, _, h2.1, h2.2⟩)
   go_wp2; go_ret; obtain ⟨F, cells, Fs, h1, h2⟩ := HDONE.out; exact ⟨⟨_, F, cells, Fs, rfl, h1, h2⟩, hbel⟩
theorem toTask_any (v : Value) (t : TaskD) (w : World) (h : RdT w w.heap.size v t) :
  Calls Tryz.prog 76 #[v] w fun e w' => (∃ v' F, e = .returned v' ∧ OwnT w' w.heap.size v' t F ∧ F.Nodup) ∧ Below w.heap.size w w' := by
 obtain ⟨A, n, c, A', n', c', rfl, hg, hgs, hds, hst⟩ := h; have hnl := hg.len
 have hb0 : Below w.heap.size w (((w.alloc (Obj.cells #[.int .i64 t.start, .slice A n c, .slice A' n' c'] 40)).alloc (Obj.cells #[.int .i64 0, .slice none 0 0, .slice none 0 0] 26)).alloc (Obj.cells #[.int .i64 t.start, .slice none 0 0, .slice none 0 0] 26)) :=
  (((Below.refl _ _).alloc (Nat.le_refl _) _).alloc (by simp) _).alloc (by simp; omega) _
 have HB0 := Lib.hid hb0; have HNL := Lib.hid hnl; clear hb0 hnl; go_enter Tryz.func76, Tryz.ntmps76
 go_wp2_with fail
 refine (toIntS_own A n c t.goal _ (hg.up HB0.out) (by omega)).mono ?_; rintro e w1 ⟨⟨A1, c1, F1, rfl, ho1⟩, hb1⟩; obtain ⟨k0, k1, k2⟩ := blk3 (hb1.mono (by simp)); have hsz := hb1.size; simp only [World.size_alloc] at hsz ho1; have a2 : w1.cell? ⟨w.heap.size, 2, none⟩ = some (.slice A' n' c') := k0.cell 2; have o1 : w1.cell? ⟨w.heap.size + 2, 1, none⟩ = some (.slice none 0 0) := k2.cell 1; have fo : ∀ i, w1.frozen? ⟨w.heap.size + 2, i, none⟩ = false := k2.frozen; have hbA : Below w.heap.size w w1 := HB0.out.trans (hb1.mono (by simp; omega)); have hbS : Below w.heap.size w (w1.setCell ⟨w.heap.size + 2, 1, none⟩ (.slice A1 n c1)) := hbA.setCell (by simp) _; have hdsr := hds.up hbS; have HBA := Lib.hid hbA; have k0' := k0.far (p := ⟨w.heap.size + 2, 1, none⟩) (by simp) (.slice A1 n c1); have k1' := k1.far (p := ⟨w.heap.size + 2, 1, none⟩) (by simp) (.slice A1 n c1); have k2' := k2.set_ 1 (.slice A1 n c1); have hoS : OwnI (w1.setCell ⟨w.heap.size + 2, 1, none⟩ (.slice A1 n c1)) (w.heap.size + 1 + 1 + 1) (.slice A1 n c1) t.goal F1 := ho1.keep fun b hb => Below.heap_setCell _ _ _ _ (by have := (ho1.lt b hb).1; simp; omega)
 have HDSR := Lib.hid hdsr; clear hb1 hbA hdsr k0 k1 k2 ho1
 go_wp2_with fail
 refine (toDeedS_any A' n' c' t.deeds _ HDSR.out).mono ?_; rintro e w2 ⟨⟨v2, F2, cells, Fs, rfl, ho2, hnd2⟩, hb2⟩; have hsz2 := hb2.size; have hszs : (w1.setCell ⟨w.heap.size + 2, 1, none⟩ (.slice A1 n c1)).heap.size = w1.heap.size := by simp [World.setCell]
 rw [hszs] at hsz2; have l1 := k1'.below hb2 k1'.lt; have l2 := k2'.below hb2 k2'.lt; have r0 : w2.cell? ⟨w.heap.size + 1, 0, none⟩ = some (.int .i64 0) := l1.cell 0; have r1 : w2.cell? ⟨w.heap.size + 1, 1, none⟩ = some (.slice none 0 0) := l1.cell 1; have r2 : w2.cell? ⟨w.heap.size + 1, 2, none⟩ = some (.slice none 0 0) := l1.cell 2; have s0 : w2.cell? ⟨w.heap.size + 2, 0, none⟩ = some (.int .i64 t.start) := l2.cell 0; have s1 : w2.cell? ⟨w.heap.size + 2, 1, none⟩ = some (.slice A1 n c1) := l2.cell 1; have s2 : w2.cell? ⟨w.heap.size + 2, 2, none⟩ = some (.slice none 0 0) := l2.cell 2; have g1 : ∀ i, w2.frozen? ⟨w.heap.size + 1, i, none⟩ = false := l1.frozen; have g2 : ∀ i, w2.frozen? ⟨w.heap.size + 2, i, none⟩ = false := l2.frozen; obtain ⟨A5, c5, hv2⟩ := own_form ho2.row; have hoI : OwnI w2 (w.heap.size + 1 + 1 + 1) (.slice A1 n c1) t.goal F1 := hoS.below hb2; have hlt1 := hoS.lt; have hlt2 := ho2.lt; rw [hszs] at hlt2
 have key : ∀ wf, Only [w.heap.size + 1, w.heap.size + 2] w2 wf → (∃ v' F, Ending.returned (.agg #[.int .i64 t.start, .slice A1 n c1, v2]) = .returned v' ∧ OwnT wf w.heap.size v' t F ∧ F.Nodup) ∧ Below w.heap.size w wf := fun wf hon => by
  refine ⟨⟨_, F1 ++ F2, rfl, ⟨_, _, F1, F2, cells, Fs, rfl, (hoI.keep fun b hb => hon.block b (hoI.lt b hb).2 (by have := (hoI.lt b hb).1; simp; omega)).mono (by omega), by rw [HNL.out]; exact hgs, (ho2.keep fun b hb => hon.block b (ho2.lt b hb).2 (by have := (hlt2 b hb).1; simp; omega)).mono (by rw [hszs]; omega), rfl, hst⟩, ?_⟩, ?_⟩
  ·rw [List.nodup_append]; refine ⟨hoI.nodup, hnd2, fun a ha b hb => ?_⟩; have h1 := (hlt1 a ha).2; have h2 := (hlt2 b hb).1; rw [hszs] at h1
   omega
  ·exact ((HBA.out.setCell (by simp) _).trans (hb2.mono (by rw [hszs]; omega))).trans (hon.below (by simp) (by omega))
 have KEY := Lib.hid key; subst hv2; clear key hb2 hoS hbS hoI ho2 hlt1 hlt2 hszs l1 l2 k0' k1' k2' hnd2; go_wp2; refine bodyPost_ret (v := .agg #[.int .i64 t.start, .slice A1 n c1, .slice A5 t.deeds.length c5]) (by simp [results, Tryz.results76, go_sem, r0, r1, r2]) rfl (KEY.out _ ?_)
 repeat' (first | with_reducible exact Only.refl _ _ | with_reducible refine Only.set ?_ ?_ _)
 all_goals simp
theorem eqDeed_any (A : Option Addr) (n c : Nat) (d : DeedD) (A' : Option Addr) (n' c' : Nat) (d' : DeedD) (w : World) (h : RdI .i64 w w.heap.size A n c d.need) (h' : RdI .i64 w w.heap.size A' n' c' d'.need) :
  Calls Tryz.prog 181 #[.agg #[.slice A n c, .int .i64 d.on, .int .i64 d.off, .int .i64 d.flip], .agg #[.slice A' n' c', .int .i64 d'.on, .int .i64 d'.off, .int .i64 d'.flip]] w fun e w' => e = .returned (.bool (decide (d = d'))) ∧ Below w.heap.size w w' := by
 obtain ⟨need, on, off, fl⟩ := d; obtain ⟨need', on', off', fl'⟩ := d'
 simp only at h h' ⊢
 have hb0 : Below w.heap.size w ((w.alloc (Obj.cells #[.slice A n c, .int .i64 on, .int .i64 off, .int .i64 fl] 144)).alloc (Obj.cells #[.slice A' n' c', .int .i64 on', .int .i64 off', .int .i64 fl'] 144)) :=
  ((Below.refl _ _).alloc (Nat.le_refl _) _).alloc (by simp) _
 have HD : ∀ b : Bool, ((need = need' ∧ on = on' ∧ off = off' ∧ fl = fl') ↔ b = true) → Hid (decide ((⟨need, on, off, fl⟩ : DeedD) = ⟨need', on', off', fl'⟩) = b) := fun b hb => Lib.hid (by
  cases b
  ·exact decide_eq_false (fun e => by injection e with e1 e2 e3 e4; exact absurd (hb.1 ⟨e1, e2, e3, e4⟩) (by simp))
  ·have := hb.2 rfl
   exact decide_eq_true (by rw [this.1, this.2.1, this.2.2.1, this.2.2.2]))
 have HH := Lib.hid HD; have H1 := Lib.hid (h.up hb0); have H2 := Lib.hid (h'.up hb0); have HB0 := Lib.hid hb0; clear HD hb0; go_enter Tryz.func181, Tryz.ntmps181
 go_wp2_with fail
 refine (eqIntS_any A n c need A' n' c' need' _ H1.out H2.out).mono ?_
 by_cases e1 : need = need'
 case neg =>
  have HV := HH.out false ⟨fun h => absurd h.1 e1, fun h => by cases h⟩; rw [decide_eq_false e1]; rintro e w1 ⟨rfl, q, rfl⟩; go_wp2; go_ret; exact ⟨ret_bool HV.out.symm, below_drewN HB0.out _⟩
 rw [decide_eq_true e1]; rintro e w1 ⟨rfl, q, rfl⟩
 by_cases e2 : on = on'
 case neg =>
  have HV := HH.out false ⟨fun h => absurd h.2.1 e2, fun h => by cases h⟩; have hne : (on != on') = true := by rw [bne_iff_ne]; exact e2
  clear e1 e2; go_wp2; go_ret; exact ⟨ret_bool HV.out.symm, below_drewN HB0.out _⟩
 by_cases e3 : off = off'
 case neg =>
  have HV := HH.out false ⟨fun h => absurd h.2.2.1 e3, fun h => by cases h⟩; have hne : (off != off') = true := by rw [bne_iff_ne]; exact e3
  subst e2; clear e1 e3; go_wp2; go_ret; exact ⟨ret_bool HV.out.symm, below_drewN HB0.out _⟩
 by_cases e4 : fl = fl'
 case neg =>
  have HV := HH.out false ⟨fun h => absurd h.2.2.2 e4, fun h => by cases h⟩; have hne : (fl != fl') = true := by rw [bne_iff_ne]; exact e4
  subst e2; subst e3; clear e1 e4; go_wp2; go_ret; exact ⟨ret_bool HV.out.symm, below_drewN HB0.out _⟩
 have HV := HH.out true ⟨fun _ => rfl, fun _ => ⟨e1, e2, e3, e4⟩⟩; subst e2; subst e3; subst e4; clear e1; go_wp2; go_ret; exact ⟨ret_bool HV.out.symm, below_drewN HB0.out _⟩
theorem eqDeedS_any (A : Option Addr) (n c : Nat) (ds : List DeedD) (A' : Option Addr) (n' c' : Nat) (ds' : List DeedD) (w : World) (h : RdDs w w.heap.size A n c ds) (h' : RdDs w w.heap.size A' n' c' ds') :
  Calls Tryz.prog 145 #[.slice A n c, .slice A' n' c'] w fun e w' => e = .returned (.bool (decide (ds = ds'))) ∧ Below w.heap.size w w' := by
 have hl := h.len; have hl' := h'.len; have hs := h.small
 by_cases hn : n = n'
 ·subst hn; have HL := Lib.hid hl; clear hl; have HL' := Lib.hid hl'; clear hl'; go_enter Tryz.func145, Tryz.ntmps145; go_wp2
  go_loopw [5] (fun i wr => ∃ k : Nat, k ≤ n ∧ i = .int .i64 k ∧ Hid (∀ j, j < k → ds[j]? = ds'[j]?) ∧ Below w.heap.size w wr) (fun i _ => n - (intOf i).toNat)
  case atStart => exact ⟨0, by omega, rfl, Lib.hid (by omega), Below.refl _ _⟩
  case round =>
   obtain ⟨k, hk, rfl, hpre, hbel⟩ := hrel
   by_cases hlt : k < n
   ·obtain ⟨b, off, d, rfl, hb, hd, hda⟩ := h.get hlt; obtain ⟨b', off', d', rfl, hb', hd', hda'⟩ := h'.get hlt; obtain ⟨An, nn, cn, q0, q1, q2, q3, hneed, hnn, -⟩ := (hda.keep hb (bcells hbel)); obtain ⟨An', nn', cn', q0', q1', q2', q3', hneed', hnn', -⟩ := (hda'.keep hb' (bcells hbel)); have HD := Lib.hid hd; have HD' := Lib.hid hd'; clear hd hda hd' hda'; go_wp2
    go_still_tail 8, (by kernel_rfl)
    change wpList _ _ _ _ _ wr.drew
    go_wp2_with fail
    refine (eqDeed_any An nn cn d An' nn' cn' d' wr.drew ((hneed.more hbel.size).keep (fun _ _ _ => rfl)) ((hneed'.more hbel.size).keep (fun _ _ _ => rfl))).mono ?_
    by_cases he : d = d'
    ·rw [decide_eq_true he]; rintro e w2 ⟨rfl, hb2⟩; have hb2' : Below wr.heap.size wr w2 := ((Below.refl _ _).drew).trans hb2; have hbel2 := hbel.trans (hb2'.mono hbel.size); have HE := Lib.hid he; clear he hb2 hb2'; go_wp2
     go_roundw
     case rel => exact ⟨k + 1, by omega, by go_num, Lib.hid fun j hj => by
      rcases Nat.lt_or_ge j k with h1 | h1
      ·exact hpre.out j h1
      ·obtain rfl : j = k := by omega
       rw [HD.out, HD'.out, HE.out], hbel2⟩
     case measure => simp [intOf]; omega
    ·rw [decide_eq_false he]; rintro e w2 ⟨rfl, hb2⟩; have hb2' : Below wr.heap.size wr w2 := ((Below.refl _ _).drew).trans hb2; have hbel2 := hbel.trans (hb2'.mono hbel.size)
     have HF : Hid (decide (ds = ds') = false) := Lib.hid (decide_eq_false fun e => by
      have h1 := HD.out; rw [e, HD'.out] at h1
      injection h1 with h1
      exact he h1.symm)
     clear he hb2 hb2'; go_wp2; go_ret; exact ⟨ret_bool HF.out.symm, hbel2⟩
   ·have HT : Hid (decide (ds = ds') = true) := Lib.hid (decide_eq_true (List.ext_getElem? fun j => by
     rcases Nat.lt_or_ge j k with h1 | h1
     ·exact hpre.out j h1
     ·rw [List.getElem?_eq_none (by rw [HL.out]; omega), List.getElem?_eq_none (by rw [HL'.out]; omega)]))
    go_wp2; go_ret; exact ⟨ret_bool HT.out.symm, hbel⟩
 ·have HF : Hid (decide (ds = ds') = false) := Lib.hid (decide_eq_false fun e => hn (by rw [← hl, ← hl', e])); have hne : ((n : Int) != (n' : Int)) = true := by rw [bne_iff_ne]; omega
  clear hl hl'; go_enter Tryz.func145, Tryz.ntmps145; go_wp2; go_ret; exact ⟨ret_bool HF.out.symm, Below.refl _ _⟩
theorem eqTask_any (v : Value) (t : TaskD) (v' : Value) (t' : TaskD) (w : World) (h : RdT w w.heap.size v t) (h' : RdT w w.heap.size v' t') :
  Calls Tryz.prog 78 #[v, v'] w fun e w' => e = .returned (.bool (decide (t = t'))) ∧ Below w.heap.size w w' := by
 obtain ⟨A, n, c, B, m, b, rfl, hg, hgs, hds, hst⟩ := h; obtain ⟨A', n', c', B', m', b', rfl, hg', hgs', hds', hst'⟩ := h'
 have hb0 : Below w.heap.size w ((w.alloc (Obj.cells #[.int .i64 t.start, .slice A n c, .slice B m b] 26)).alloc (Obj.cells #[.int .i64 t'.start, .slice A' n' c', .slice B' m' b'] 26)) :=
  ((Below.refl _ _).alloc (Nat.le_refl _) _).alloc (by simp) _
 have HH : Hid (∀ b : Bool, ((t.start = t'.start ∧ t.goal = t'.goal ∧ t.deeds = t'.deeds) ↔ b = true) → Hid (decide (t = t') = b)) := Lib.hid fun b hb => Lib.hid (by
  cases b
  ·exact decide_eq_false (fun e => absurd (hb.1 (by rw [e]; exact ⟨rfl, rfl, rfl⟩)) (by simp))
  ·have := hb.2 rfl
   exact decide_eq_true (TaskD.ext' this.1 this.2.1 this.2.2))
 have H1 := Lib.hid (hg.up hb0); have H2 := Lib.hid (hg'.up hb0); have H3 := Lib.hid (hds.up hb0); have H4 := Lib.hid (hds'.up hb0); have HB0 := Lib.hid hb0; clear hb0
 by_cases e1 : t.start = t'.start
 case neg =>
  have HV := HH.out false ⟨fun h => absurd h.1 e1, fun h => by cases h⟩; have hne : (t.start != t'.start) = true := by rw [bne_iff_ne]; exact e1
  clear e1; go_enter Tryz.func78, Tryz.ntmps78; go_wp2; go_ret; exact ⟨ret_bool HV.out.symm, HB0.out⟩
 have E1 := Lib.hid e1; have hne : (t.start != t'.start) = false := by rw [e1]; simp
 clear e1; go_enter Tryz.func78, Tryz.ntmps78
 go_wp2_with fail
 refine (eqIntS_any A n c t.goal A' n' c' t'.goal _ H1.out H2.out).mono ?_
 by_cases e2 : t.goal = t'.goal
 case neg =>
  have HV := HH.out false ⟨fun h => absurd h.2.1 e2, fun h => by cases h⟩; rw [decide_eq_false e2]; rintro e w1 ⟨rfl, q, rfl⟩; go_wp2; go_ret; exact ⟨ret_bool HV.out.symm, below_drewN HB0.out _⟩
 rw [decide_eq_true e2]; rintro e w1 ⟨rfl, q, rfl⟩; have E2 := Lib.hid e2; clear e2
 go_wp2_with fail
 refine (eqDeedS_any B m b t.deeds B' m' b' t'.deeds _ (H3.out.up (below_drewN (Below.refl _ _) _)) (H4.out.up (below_drewN (Below.refl _ _) _))).mono ?_
 by_cases e3 : t.deeds = t'.deeds
 ·have HV := HH.out true ⟨fun _ => rfl, fun _ => ⟨E1.out, E2.out, e3⟩⟩; rw [decide_eq_true e3]; rintro e w2 ⟨rfl, hb2⟩; go_wp2; go_ret; exact ⟨ret_bool HV.out.symm, (below_drewN HB0.out q).trans (hb2.mono (below_drewN HB0.out q).size)⟩
 ·have HV := HH.out false ⟨fun h => absurd h.2.2 e3, fun h => by cases h⟩; rw [decide_eq_false e3]; rintro e w2 ⟨rfl, hb2⟩; go_wp2; go_ret; exact ⟨ret_bool HV.out.symm, (below_drewN HB0.out q).trans (hb2.mono (below_drewN HB0.out q).size)⟩
end Go.Proofs.YtkmcengmglgdeaaGreatDoor
