/- Joined texts: Own, Sz, Part, To, Eq, Mark, Mark2. -/
import Derived.Test.YtkmcengmglgdeaaGreatDoorSDeed
import Derived.Test.YtkmcengmglgdeaaGreatDoorSPure
import Derived.StillTailTactics
/- What a call hands back in new memory: rows of its own, each in a block that no other part shares. No program in sight but for type numbers. -/
namespace Go.Proofs.YtkmcengmglgdeaaGreatDoor
open Go.ChangeShapes Go.WideShapes Go.ChangeAt Go.RowKit

/-- only the blocks of F have turned, of those that were there -/
structure Only (F : List Nat) (w w' : World) : Prop where
 os : w'.os = w.os
 tape : w'.tape = w.tape
 output : w'.output = w.output
 size : w.heap.size ≤ w'.heap.size
 block : ∀ k, k < w.heap.size → k ∉ F → w'.heap[k]? = w.heap[k]?
theorem Only.refl (F : List Nat) (w : World) : Only F w w := ⟨rfl, rfl, rfl, Nat.le_refl _, fun _ _ _ => rfl⟩
theorem Only.trans {F : List Nat} {a b c : World} (h : Only F a b) (k : Only F b c) : Only F a c :=
 ⟨k.os.trans h.os, k.tape.trans h.tape, k.output.trans h.output, Nat.le_trans h.size k.size, fun i hi hn => (k.block i (Nat.lt_of_lt_of_le hi h.size) hn).trans (h.block i hi hn)⟩
theorem Only.sub {F F' : List Nat} {a b : World} (h : Only F a b) (hs : ∀ x ∈ F, x ∈ F') : Only F' a b := ⟨h.os, h.tape, h.output, h.size, fun i hi hn => h.block i hi fun hx => hn (hs i hx)⟩
theorem Only.below {F : List Nat} {a b : World} {B : Nat} (h : Only F a b) (hF : ∀ x ∈ F, B ≤ x) (hB : B ≤ a.heap.size) : Below B a b := ⟨h.os, h.tape, h.output, h.size, fun i hi => h.block i (by omega) fun hx => by have := hF i hx; omega⟩
theorem Only.set {F : List Nat} {a w : World} (h : Only F a w) {p : Addr} (hp : p.block ∈ F) (u : Value) : Only F a (w.setCell p u) :=
 h.trans ⟨rfl, rfl, rfl, by simp [World.setCell], fun k _ hn => Below.heap_setCell _ _ _ _ (by rintro rfl; exact hn hp)⟩
theorem Only.of_grown {a b : World} {row : Option Nat} (h : a.grownBy b row) : Only row.toList a b := ⟨h.os, h.tape, h.output, h.size, fun i hi hn => h.block i hi (by rintro rfl; simp at hn)⟩

/-- a row of numbers of its own: F its block, if it has one -/
structure OwnI (w : World) (lo : Nat) (v : Value) (xs : List Int) (F : List Nat) : Prop where
 row : w.ownsRow lo 3 1 v xs.length (ints xs)
 wf : ∀ x ∈ xs, (Lit.int .i64 x).wf = true
 foot : F = v.ownBlock.toList
theorem ownsRow_heap {w w' : World} {base : Nat} {e : TypeId} {size n : Nat} {v : Value} {xs : List Value} (h : w.ownsRow base e size v n xs) (hk : ∀ b, v.ownBlock = some b → w'.heap[b]? = w.heap[b]?) : w'.ownsRow base e size v n xs := by
 refine ⟨h.1, ?_⟩
 rcases h.2 with h | ⟨g, cap, cur, rfl, hg, hh, r⟩
 ·exact .inl h
 ·exact .inr ⟨g, cap, cur, rfl, hg, (hk g rfl).trans hh, r⟩
section
variable {w w' : World} {lo : Nat} {v : Value} {xs : List Int} {F : List Nat}
theorem OwnI.keep (h : OwnI w lo v xs F) (hk : ∀ b ∈ F, w'.heap[b]? = w.heap[b]?) : OwnI w' lo v xs F :=
 ⟨ownsRow_heap h.row fun b hb => hk b (by rw [h.foot, hb]; simp), h.wf, h.foot⟩
theorem OwnI.lt (h : OwnI w lo v xs F) : ∀ b ∈ F, lo ≤ b ∧ b < w.heap.size := fun b hb => h.row.lt b (by rw [h.foot] at hb; simpa using hb)
theorem OwnI.nodup (h : OwnI w lo v xs F) : F.Nodup := by rw [h.foot]; cases v.ownBlock <;> simp
theorem OwnI.rd (h : OwnI w lo v xs F) : ∃ A c, v = .slice A xs.length c ∧ RdI .i64 w w.heap.size A xs.length c xs := by
 obtain ⟨A, c, hv⟩ := own_form h.row
 subst hv
 exact ⟨A, c, rfl, rdI_own h.row h.wf⟩
theorem OwnI.mono {lo' : Nat} (h : OwnI w lo v xs F) (hl : lo' ≤ lo) : OwnI w lo' v xs F := ⟨own_mono h.row hl, h.wf, h.foot⟩
theorem OwnI.below (h : OwnI w lo v xs F) (hb : Below w.heap.size w w') : OwnI w' lo v xs F := h.keep fun b hx => hb.block b (h.lt b hx).2
end

/-- the deeds' cells in a row: each need a row of its own -/
def OwnD (w : World) (lo : Nat) (cells : List Value) (i : Nat) (d : DeedD) (F : List Nat) : Prop :=
 ∃ nv, cells[i * 4]? = some nv ∧ cells[i * 4 + 1]? = some (.int .i64 d.on) ∧ cells[i * 4 + 2]? = some (.int .i64 d.off) ∧ cells[i * 4 + 3]? = some (.int .i64 d.flip) ∧ OwnI w lo nv d.need F ∧ d.need.length ≤ 1048576 ∧
  (Lit.int .i64 d.on).wf = true ∧ (Lit.int .i64 d.off).wf = true ∧ (Lit.int .i64 d.flip).wf = true
structure OwnDs (w : World) (lo : Nat) (v : Value) (ds : List DeedD) (F : List Nat) (cells : List Value) (Fs : List (List Nat)) : Prop where
 row : w.ownsRow lo 144 4 v ds.length cells
 small : ds.length ≤ 1048576
 flen : Fs.length = ds.length
 foot : F = v.ownBlock.toList ++ Fs.flatten
 deed : ∀ (i : Nat) d Fi, ds[i]? = some d → Fs[i]? = some Fi → OwnD w lo cells i d Fi
section
variable {w w' : World} {lo : Nat} {v : Value} {ds : List DeedD} {F : List Nat} {cells : List Value} {Fs : List (List Nat)}
theorem OwnD.keep {i : Nat} {d : DeedD} {Fi : List Nat} (h : OwnD w lo cells i d Fi) (hk : ∀ b ∈ Fi, w'.heap[b]? = w.heap[b]?) : OwnD w' lo cells i d Fi := by
 obtain ⟨nv, h0, h1, h2, h3, h4, r⟩ := h
 exact ⟨nv, h0, h1, h2, h3, h4.keep hk, r⟩
theorem mem_flat {Fs : List (List Nat)} {i : Nat} {Fi : List Nat} (h : Fs[i]? = some Fi) {b : Nat} (hb : b ∈ Fi) : b ∈ Fs.flatten := List.mem_flatten.2 ⟨Fi, List.mem_of_getElem? h, hb⟩
theorem OwnDs.keep (h : OwnDs w lo v ds F cells Fs) (hk : ∀ b ∈ F, w'.heap[b]? = w.heap[b]?) : OwnDs w' lo v ds F cells Fs :=
 ⟨ownsRow_heap h.row fun b hb => hk b (by rw [h.foot, hb]; simp), h.small, h.flen, h.foot, fun i d Fi hd hF => (h.deed i d Fi hd hF).keep fun b hb => hk b (by rw [h.foot]; exact List.mem_append_right _ (mem_flat hF hb))⟩
theorem OwnDs.lt (h : OwnDs w lo v ds F cells Fs) : ∀ b ∈ F, lo ≤ b ∧ b < w.heap.size := fun b hb => by
 rw [h.foot] at hb
 rcases List.mem_append.1 hb with hb | hb
 ·exact h.row.lt b (by simpa using hb)
 ·obtain ⟨Fi, hF, hb⟩ := List.mem_flatten.1 hb
  obtain ⟨i, hi⟩ := List.mem_iff_getElem?.1 hF
  have hl : i < ds.length := by rw [← h.flen]; exact (List.getElem?_eq_some_iff.1 hi).1
  obtain ⟨nv, _, _, _, _, h4, _⟩ := h.deed i _ _ (List.getElem?_eq_getElem hl) hi
  exact h4.lt b hb
theorem OwnDs.mono {lo' : Nat} (h : OwnDs w lo v ds F cells Fs) (hl : lo' ≤ lo) : OwnDs w lo' v ds F cells Fs :=
 ⟨own_mono h.row hl, h.small, h.flen, h.foot, fun i d Fi hd hF => by
  obtain ⟨nv, h0, h1, h2, h3, h4, r⟩ := h.deed i d Fi hd hF
  exact ⟨nv, h0, h1, h2, h3, h4.mono hl, r⟩⟩
theorem OwnDs.below (h : OwnDs w lo v ds F cells Fs) (hb : Below w.heap.size w w') : OwnDs w' lo v ds F cells Fs := h.keep fun b hx => hb.block b (h.lt b hx).2
theorem OwnDs.rd (h : OwnDs w lo v ds F cells Fs) : ∃ A c, v = .slice A ds.length c ∧ RdDs w w.heap.size A ds.length c ds := by
 rcases h.row.2 with ⟨rfl, h0⟩ | ⟨g, cap, cur, rfl, hg, hh, h3, h4, h5, h6⟩
 ·exact ⟨none, 0, by rw [h0], rfl, by omega, by unfold maxLen; omega, h.small, fun hn => by omega⟩
 ·refine ⟨_, _, rfl, rfl, h3, h4, h.small, fun _ => ⟨g, 0, rfl, (Array.getElem?_eq_some_iff.1 hh).1, fun i d hd => ?_⟩⟩
  have hl : i < ds.length := (List.getElem?_eq_some_iff.1 hd).1
  obtain ⟨nv, q0, q1, q2, q3, q4, q5, q6⟩ := h.deed i d (Fs[i]'(by rw [h.flen]; exact hl)) hd (List.getElem?_eq_getElem _)
  have hcell : ∀ j u, cells[j]? = some u → w.cell? ⟨g, j, none⟩ = some u := fun j u hu => by
   have hj : j < ds.length * 4 := by rw [← h.row.1]; exact (List.getElem?_eq_some_iff.1 hu).1
   exact (h.row.cellAt j hj).trans hu
  obtain ⟨A, c, rfl, hr⟩ := q4.rd
  rw [Nat.zero_add]
  exact ⟨A, _, c, hcell _ _ q0, hcell _ _ q1, hcell _ _ q2, hcell _ _ q3, hr, q5, q6⟩
end

/-- a task of its own -/
def OwnT (w : World) (lo : Nat) (v : Value) (t : TaskD) (F : List Nat) : Prop :=
 ∃ gv dv Fg Fd cells Fs, v = .agg #[.int .i64 t.start, gv, dv] ∧ OwnI w lo gv t.goal Fg ∧ t.goal.length ≤ 1048576 ∧ OwnDs w lo dv t.deeds Fd cells Fs ∧ F = Fg ++ Fd ∧ (Lit.int .i64 t.start).wf = true
section
variable {w w' : World} {lo : Nat} {v : Value} {t : TaskD} {F : List Nat}
theorem OwnT.keep (h : OwnT w lo v t F) (hk : ∀ b ∈ F, w'.heap[b]? = w.heap[b]?) : OwnT w' lo v t F := by
 obtain ⟨gv, dv, Fg, Fd, cells, Fs, e, h1, h2, h3, rfl, h4⟩ := h
 exact ⟨gv, dv, Fg, Fd, cells, Fs, e, h1.keep fun b hb => hk b (List.mem_append_left _ hb), h2, h3.keep fun b hb => hk b (List.mem_append_right _ hb), rfl, h4⟩
theorem OwnT.lt (h : OwnT w lo v t F) : ∀ b ∈ F, lo ≤ b ∧ b < w.heap.size := by
 obtain ⟨gv, dv, Fg, Fd, cells, Fs, e, h1, h2, h3, rfl, h4⟩ := h
 intro b hb
 rcases List.mem_append.1 hb with hb | hb
 ·exact h1.lt b hb
 ·exact h3.lt b hb
theorem OwnT.mono {lo' : Nat} (h : OwnT w lo v t F) (hl : lo' ≤ lo) : OwnT w lo' v t F := by
 obtain ⟨gv, dv, Fg, Fd, cells, Fs, e, h1, h2, h3, rfl, h4⟩ := h
 exact ⟨gv, dv, Fg, Fd, cells, Fs, e, h1.mono hl, h2, h3.mono hl, rfl, h4⟩
theorem OwnT.rd (h : OwnT w lo v t F) : RdT w w.heap.size v t := by
 obtain ⟨gv, dv, Fg, Fd, cells, Fs, rfl, h1, h2, h3, rfl, h4⟩ := h
 obtain ⟨A, c, rfl, hg⟩ := h1.rd
 obtain ⟨A', c', rfl, hd⟩ := h3.rd
 exact ⟨A, _, c, A', _, c', rfl, hg, h2, hd, h4⟩
end
end Go.Proofs.YtkmcengmglgdeaaGreatDoor

/- The laws' helpers that count how much an argument holds: szIntS, szDeed, szDeedS, szTask. -/
namespace Go.Proofs.YtkmcengmglgdeaaGreatDoor
open Go.ChangeShapes Go.WideShapes Go.ChangeAt Go.RowKit

/-- what is left of a bound -/
def less (left : Int) (n : Nat) : Int := if (n : Int) ≤ left then left - n else -1
def szD (d : DeedD) : Nat := d.need.length
def szDs (ds : List DeedD) : Nat := ds.length + (ds.map szD).sum
def szT (t : TaskD) : Nat := t.goal.length + szDs t.deeds
end Go.Proofs.YtkmcengmglgdeaaGreatDoor

/- A row of deeds that is filled from its beginning on. -/
namespace Go.Proofs.YtkmcengmglgdeaaGreatDoor
open Go.ChangeShapes Go.WideShapes Go.ChangeAt Go.RowKit

/-- the four cells of a deed laid at place k -/
def setD (cells : List Value) (k : Nat) (nv : Value) (d : DeedD) : List Value :=
 (((cells.set (k * 4) nv).set (k * 4 + 1) (.int .i64 d.on)).set (k * 4 + 2) (.int .i64 d.off)).set (k * 4 + 3) (.int .i64 d.flip)
/-- block g is a row for all deeds, of which the first k are laid -/
structure PartDs (w : World) (g : Nat) (ds : List DeedD) (k : Nat) (cells : List Value) (Fs : List (List Nat)) : Prop where
 blk : Blk w g 144 cells.toArray
 clen : cells.length = ds.length * 4
 flen : Fs.length = k
 deed : ∀ (i : Nat) d Fi, ds[i]? = some d → Fs[i]? = some Fi → OwnD w (g + 1) cells i d Fi
 nodup : Fs.flatten.Nodup

end Go.Proofs.YtkmcengmglgdeaaGreatDoor

/- The laws' helpers that copy an argument: toDeed, toDeedS, toTask: each hands back the same data in new memory of its own. -/
namespace Go.Proofs.YtkmcengmglgdeaaGreatDoor
open Go.ChangeShapes Go.WideShapes Go.ChangeAt Go.RowKit

theorem elDeed : ElemT Tryz.prog 24 144 (.agg #[.slice none 0 0, .int .i64 0, .int .i64 0, .int .i64 0]) 4 48 := ⟨Tryz.underlying24, info_parts (by kernel_rfl), rfl, by omega⟩

end Go.Proofs.YtkmcengmglgdeaaGreatDoor

/- The laws' helpers that compare: eqDeed, eqDeedS, eqTask: each tells whether the data are the same. -/
namespace Go.Proofs.YtkmcengmglgdeaaGreatDoor
open Go.ChangeShapes Go.WideShapes Go.ChangeAt Go.RowKit

end Go.Proofs.YtkmcengmglgdeaaGreatDoor

/- The laws' helpers that mark what a call handed back, and look whether the marks stand: markIntS, heldIntS, markDeedS, heldDeedS, markTask, heldTask. -/
namespace Go.Proofs.YtkmcengmglgdeaaGreatDoor
open Go.ChangeShapes Go.WideShapes Go.ChangeAt Go.RowKit

def marks (k n : Nat) : List Int := (List.range n).map fun i => ((k + i : Nat) : Int)
@[simp] theorem marks_len (k n : Nat) : (marks k n).length = n := by simp [marks]
theorem marks_get (k n i : Nat) (h : i < n) : (marks k n)[i]? = some ((k + i : Nat) : Int) := by unfold marks; rw [List.getElem?_map, List.getElem?_range h]; rfl
/-- the first i numbers marked -/
def mixI (k : Nat) (xs : List Int) (i : Nat) : List Int := marks k i ++ xs.drop i
def markD (k : Nat) (d : DeedD) : DeedD := ⟨marks k d.need.length, ((k + d.need.length : Nat) : Int), ((k + d.need.length + 1 : Nat) : Int), ((k + d.need.length + 2 : Nat) : Int)⟩
def mkD (d : DeedD) : Nat := d.need.length + 3
def mkDs (ds : List DeedD) : Nat := (ds.map mkD).sum
/-- the mark at which the deed at i begins -/
def markAt (k : Nat) (ds : List DeedD) (i : Nat) : Nat := k + ((ds.take i).map mkD).sum
def markDs (k : Nat) : List DeedD → List DeedD
 | [] => []
 | d :: ds => markD k d :: markDs (k + mkD d) ds
/-- the first i deeds marked -/
def mixD (k : Nat) (ds : List DeedD) (i : Nat) : List DeedD := (markDs k ds).take i ++ ds.drop i
def set3 (cells : List Value) (i : Nat) (a b c : Int) : List Value := ((cells.set (i * 4 + 1) (.int .i64 a)).set (i * 4 + 2) (.int .i64 b)).set (i * 4 + 3) (.int .i64 c)
end Go.Proofs.YtkmcengmglgdeaaGreatDoor

/- markDeedS, heldDeedS, markTask, heldTask: marks go on from a number, and stand where they were laid. Conditions: at most 2^20 of each, numbers to 2^40. -/
namespace Go.Proofs.YtkmcengmglgdeaaGreatDoor
open Go.ChangeShapes Go.WideShapes Go.ChangeAt Go.RowKit

def mkT (t : TaskD) : Nat := t.goal.length + mkDs t.deeds
def markT (k : Nat) (t : TaskD) : TaskD := ⟨t.start, marks k t.goal.length, markDs (k + t.goal.length) t.deeds⟩
end Go.Proofs.YtkmcengmglgdeaaGreatDoor
