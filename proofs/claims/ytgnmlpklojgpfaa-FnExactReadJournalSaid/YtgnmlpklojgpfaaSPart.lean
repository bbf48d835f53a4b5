/- A row of deeds that is filled from its beginning on. -/
import Derived.Test.YtgnmlpklojgpfaaSOwn
namespace Go.Proofs.Ytgnmlpklojgpfaa
open Go.ChangeShapes Go.WideShapes Go.ChangeAt Go.RowKit

/-- the four cells of a deed laid at place k -/
def setD (cells : List Value) (k : Nat) (nv : Value) (d : DeedD) : List Value :=
  (((cells.set (k * 4) nv).set (k * 4 + 1) (.int .i64 d.on)).set (k * 4 + 2) (.int .i64 d.off)).set (k * 4 + 3) (.int .i64 d.flip)
/-- block g is a row for all deeds, of which the first k are laid -/
structure PartDs (w : World) (g : Nat) (ds : List DeedD) (k : Nat) (cells : List Value) (Fs : List (List Nat)) : Prop where
  blk : Blk w g 75 cells.toArray
  clen : cells.length = ds.length * 4
  flen : Fs.length = k
  deed : ∀ (i : Nat) d Fi, ds[i]? = some d → Fs[i]? = some Fi → OwnD w (g + 1) cells i d Fi
  nodup : Fs.flatten.Nodup

theorem PartDs.lt {w : World} {g : Nat} {ds : List DeedD} {k : Nat} {cells : List Value} {Fs : List (List Nat)} (h : PartDs w g ds k cells Fs) (hk : k ≤ ds.length) : ∀ b ∈ Fs.flatten, g + 1 ≤ b ∧ b < w.heap.size := fun b hb => by
  obtain ⟨Fi, hF, hb⟩ := List.mem_flatten.1 hb
  obtain ⟨i, hi⟩ := List.mem_iff_getElem?.1 hF
  have hl : i < ds.length := by have := (List.getElem?_eq_some_iff.1 hi).1; have := h.flen; omega
  obtain ⟨nv, _, _, _, _, h4, _⟩ := h.deed i _ _ (List.getElem?_eq_getElem hl) hi
  exact h4.lt b hb
theorem PartDs.keep {w w' : World} {g : Nat} {ds : List DeedD} {k : Nat} {cells : List Value} {Fs : List (List Nat)} (h : PartDs w g ds k cells Fs) (hk : k ≤ ds.length) (hb : Below w.heap.size w w') : PartDs w' g ds k cells Fs :=
  ⟨h.blk.below hb h.blk.lt, h.clen, h.flen, fun i d Fi hd hF => (h.deed i d Fi hd hF).keep fun b hx => hb.block b (h.lt hk b (mem_flat hF hx)).2, h.nodup⟩
theorem PartDs.done {w : World} {g : Nat} {ds : List DeedD} {cells : List Value} {Fs : List (List Nat)} (h : PartDs w g ds ds.length cells Fs) (hs : ds.length ≤ 1048576) {lo : Nat} (hlo : lo ≤ g) :
    OwnDs w lo (.slice (some ⟨g, 0, none⟩) ds.length ds.length) ds (g :: Fs.flatten) cells Fs ∧ (g :: Fs.flatten).Nodup :=
  ⟨⟨⟨h.clen, .inr ⟨g, ds.length, cells.toArray, rfl, hlo, h.blk, Nat.le_refl _, by unfold maxLen; omega, by simpa using h.clen, by rw [List.take_of_length_le (by simpa using (Nat.le_of_eq h.clen))]⟩⟩, hs, h.flen, rfl, fun i d Fi hd hF => by
      obtain ⟨nv, q0, q1, q2, q3, q4, r⟩ := h.deed i d Fi hd hF
      exact ⟨nv, q0, q1, q2, q3, q4.mono (by omega), r⟩⟩, List.nodup_cons.2 ⟨fun hx => by have := (h.lt (Nat.le_refl _) g hx).1; omega, h.nodup⟩⟩
end Go.Proofs.Ytgnmlpklojgpfaa
