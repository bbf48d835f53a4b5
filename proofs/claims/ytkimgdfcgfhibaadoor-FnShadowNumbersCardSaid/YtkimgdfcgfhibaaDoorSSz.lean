/- Joined texts: Sz, Part, To, Eq. -/
import Derived.Test.YtkimgdfcgfhibaaDoorSOwn
import Derived.Test.YtkimgdfcgfhibaaDoorSInts
import Derived.StillTailTactics
/- The laws' helpers that count how much an argument holds: szIntS, szDeed, szDeedS, szTask. -/
namespace Go.Proofs.YtkimgdfcgfhibaaDoor
open Go.ChangeShapes Go.WideShapes Go.ChangeAt Go.RowKit

/-- what is left of a bound -/
def less (left : Int) (n : Nat) : Int := if (n : Int) ≤ left then left - n else -1
def szD (d : DeedD) : Nat := d.need.length
def szDs (ds : List DeedD) : Nat := ds.length + (ds.map szD).sum
def szT (t : TaskD) : Nat := t.goal.length + szDs t.deeds
end Go.Proofs.YtkimgdfcgfhibaaDoor

/- A row of deeds that is filled from its beginning on. -/
namespace Go.Proofs.YtkimgdfcgfhibaaDoor
open Go.ChangeShapes Go.WideShapes Go.ChangeAt Go.RowKit

/-- the four cells of a deed laid at place k -/
def setD (cells : List Value) (k : Nat) (nv : Value) (d : DeedD) : List Value :=
  (((cells.set (k * 4) nv).set (k * 4 + 1) (.int .i64 d.on)).set (k * 4 + 2) (.int .i64 d.off)).set (k * 4 + 3) (.int .i64 d.flip)
theorem setD_len (cells : List Value) (k : Nat) (nv : Value) (d : DeedD) : (setD cells k nv d).length = cells.length := by simp [setD]
theorem setD_other (cells : List Value) (k : Nat) (nv : Value) (d : DeedD) (j : Nat) (h : j < k * 4 ∨ k * 4 + 4 ≤ j) : (setD cells k nv d)[j]? = cells[j]? := by
  unfold setD
  rw [List.getElem?_set_ne (by omega), List.getElem?_set_ne (by omega), List.getElem?_set_ne (by omega), List.getElem?_set_ne (by omega)]
theorem setD_at (cells : List Value) (k : Nat) (nv : Value) (d : DeedD) (h : k * 4 + 3 < cells.length) :
    (setD cells k nv d)[k * 4]? = some nv ∧ (setD cells k nv d)[k * 4 + 1]? = some (.int .i64 d.on) ∧ (setD cells k nv d)[k * 4 + 2]? = some (.int .i64 d.off) ∧ (setD cells k nv d)[k * 4 + 3]? = some (.int .i64 d.flip) := by
  unfold setD
  refine ⟨?_, ?_, ?_, ?_⟩
  · rw [List.getElem?_set_ne (by omega), List.getElem?_set_ne (by omega), List.getElem?_set_ne (by omega), List.getElem?_set_self (by omega)]
  · rw [List.getElem?_set_ne (by omega), List.getElem?_set_ne (by omega), List.getElem?_set_self (by simp; omega)]
  · rw [List.getElem?_set_ne (by omega), List.getElem?_set_self (by simp; omega)]
  · rw [List.getElem?_set_self (by simp; omega)]
/-- block g is a row for all deeds, of which the first k are laid -/
structure PartDs (w : World) (g : Nat) (ds : List DeedD) (k : Nat) (cells : List Value) (Fs : List (List Nat)) : Prop where
  blk : Blk w g 85 cells.toArray
  clen : cells.length = ds.length * 4
  flen : Fs.length = k
  deed : ∀ (i : Nat) d Fi, ds[i]? = some d → Fs[i]? = some Fi → OwnD w (g + 1) cells i d Fi
  nodup : Fs.flatten.Nodup

theorem PartDs.lt {w : World} {g : Nat} {ds : List DeedD} {k : Nat} {cells : List Value} {Fs : List (List Nat)} (h : PartDs w g ds k cells Fs) (hk : k ≤ ds.length) : ∀ b ∈ Fs.flatten, g + 1 ≤ b ∧ b < w.heap.size := fun b hb => by
  obtain ⟨Fi, hF, hb⟩ := List.mem_flatten.1 hb
  obtain ⟨i, hi⟩ := List.mem_iff_getElem?.1 hF
  have hl : i < ds.length := by have := (List.getElem?_eq_some_iff.1 hi).1; have := h.flen; omega
  obtain ⟨nv, _, _, _, _, h4, _⟩ := h.deed i _ _ (List.getElem?_eq_getElem hl) hi
  exact h4.lt b hb
theorem PartDs.keep {w w' : World} {g : Nat} {ds : List DeedD} {k : Nat} {cells : List Value} {Fs : List (List Nat)} (h : PartDs w g ds k cells Fs) (hk : k ≤ ds.length) (hb : Below w.heap.size w w') : PartDs w' g ds k cells Fs :=
  ⟨h.blk.below hb h.blk.lt, h.clen, h.flen, fun i d Fi hd hF => (h.deed i d Fi hd hF).keep fun b hx => hb.block b (h.lt hk b (mem_flat hF hx)).2, h.nodup⟩
theorem PartDs.next {w w2 w3 : World} {g : Nat} {ds : List DeedD} {k : Nat} {cells : List Value} {Fs : List (List Nat)} (h : PartDs w g ds k cells Fs) (d : DeedD) (hd : ds[k]? = some d) (nv : Value) (F : List Nat)
    (hb : Below w.heap.size w w2) (ho : OwnI w2 w.heap.size nv d.need F) (hs : d.need.length ≤ 1048576) (hwf : (Lit.int .i64 d.on).wf = true ∧ (Lit.int .i64 d.off).wf = true ∧ (Lit.int .i64 d.flip).wf = true)
    (hblk : Blk w3 g 85 (setD cells k nv d).toArray) (hon : ∀ b, b ≠ g → b < w2.heap.size → w3.heap[b]? = w2.heap[b]?) : PartDs w3 g ds (k + 1) (setD cells k nv d) (Fs ++ [F]) := by
  have hk : k < ds.length := (List.getElem?_eq_some_iff.1 hd).1
  have h2 := h.keep (by omega) hb
  have hgl := h.blk.lt
  have hkF : ∀ b ∈ Fs.flatten, w3.heap[b]? = w2.heap[b]? := fun b hx => by
    have := h2.lt (by omega) b hx
    exact hon b (by omega) this.2
  refine ⟨hblk, by rw [setD_len]; exact h.clen, by simp [h.flen], fun i e Fi he hF => ?_, ?_⟩
  · rcases Nat.lt_or_ge i k with hi | hi
    · rw [List.getElem?_append_left (by rw [h.flen]; exact hi)] at hF
      obtain ⟨nv', q0, q1, q2, q3, q4, r⟩ := h2.deed i e Fi he hF
      refine ⟨nv', ?_, ?_, ?_, ?_, q4.keep fun b hx => hkF b (mem_flat hF hx), r⟩
      · rw [setD_other _ _ _ _ _ (by omega)]; exact q0
      · rw [setD_other _ _ _ _ _ (by omega)]; exact q1
      · rw [setD_other _ _ _ _ _ (by omega)]; exact q2
      · rw [setD_other _ _ _ _ _ (by omega)]; exact q3
    · have hik : i = k := by
        have := (List.getElem?_eq_some_iff.1 hF).1
        simp [h.flen] at this
        omega
      subst hik
      have := he.symm.trans hd
      injection this with this
      subst this
      rw [List.getElem?_append_right (by rw [h.flen]; exact Nat.le_refl _), h.flen, Nat.sub_self] at hF
      simp only [List.getElem?_cons_zero, Option.some.injEq] at hF
      subst hF
      obtain ⟨q0, q1, q2, q3⟩ := setD_at cells i nv e (by rw [h.clen]; omega)
      refine ⟨nv, q0, q1, q2, q3, (ho.keep fun b hx => hon b ?_ (ho.lt b hx).2).mono (by omega), hs, hwf⟩
      have := (ho.lt b hx).1
      omega
  · rw [List.flatten_append, List.nodup_append]
    refine ⟨h.nodup, by simpa using ho.nodup, fun a ha b hb' => ?_⟩
    have h1 := (h.lt (by omega) a ha).2
    have h3 := (ho.lt b (by simpa using hb')).1
    omega
theorem PartDs.done {w : World} {g : Nat} {ds : List DeedD} {cells : List Value} {Fs : List (List Nat)} (h : PartDs w g ds ds.length cells Fs) (hs : ds.length ≤ 1048576) {lo : Nat} (hlo : lo ≤ g) :
    OwnDs w lo (.slice (some ⟨g, 0, none⟩) ds.length ds.length) ds (g :: Fs.flatten) cells Fs ∧ (g :: Fs.flatten).Nodup :=
  ⟨⟨⟨h.clen, .inr ⟨g, ds.length, cells.toArray, rfl, hlo, h.blk, Nat.le_refl _, by unfold maxLen; omega, by simpa using h.clen, by rw [List.take_of_length_le (by simpa using (Nat.le_of_eq h.clen))]⟩⟩, hs, h.flen, rfl, fun i d Fi hd hF => by
      obtain ⟨nv, q0, q1, q2, q3, q4, r⟩ := h.deed i d Fi hd hF
      exact ⟨nv, q0, q1, q2, q3, q4.mono (by omega), r⟩⟩, List.nodup_cons.2 ⟨fun hx => by have := (h.lt (Nat.le_refl _) g hx).1; omega, h.nodup⟩⟩
end Go.Proofs.YtkimgdfcgfhibaaDoor

/- The laws' helpers that copy an argument: toDeed, toDeedS, toTask: each hands back the same data in new memory of its own. -/
namespace Go.Proofs.YtkimgdfcgfhibaaDoor
open Go.ChangeShapes Go.WideShapes Go.ChangeAt Go.RowKit

theorem elDeed : ElemT Tryd.prog 24 85 (.agg #[.slice none 0 0, .int .i64 0, .int .i64 0, .int .i64 0]) 4 48 := ⟨Tryd.underlying24, info_parts (by kernel_rfl), rfl, by omega⟩

end Go.Proofs.YtkimgdfcgfhibaaDoor

/- The laws' helpers that compare: eqDeed, eqDeedS, eqTask: each tells whether the data are the same. -/
namespace Go.Proofs.YtkimgdfcgfhibaaDoor
open Go.ChangeShapes Go.WideShapes Go.ChangeAt Go.RowKit

end Go.Proofs.YtkimgdfcgfhibaaDoor
