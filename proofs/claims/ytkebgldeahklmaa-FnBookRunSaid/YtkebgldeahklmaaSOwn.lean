/- Joined texts: Own, Part, Ints, To. -/
import Derived.Test.YtkebgldeahklmaaSDeed
import Derived.Test.YtkebgldeahklmaaSPure
/- What a call hands back in new memory: rows of its own, each in a block that no other part shares. No program in sight but for type numbers. -/
namespace Go.Proofs.Ytkebgldeahklmaa
open Go.ChangeShapes Go.WideShapes Go.ChangeAt Go.RowKit

/-- only the blocks of F have turned, of those that were there -/
structure Only (F : List Nat) (w w' : World) : Prop where
  os : w'.os = w.os
  tape : w'.tape = w.tape
  output : w'.output = w.output
  size : w.heap.size ≤ w'.heap.size
  block : ∀ k, k < w.heap.size → k ∉ F → w'.heap[k]? = w.heap[k]?
theorem Only.refl (F : List Nat) (w : World) : Only F w w := ⟨rfl, rfl, rfl, Nat.le_refl _, fun _ _ _ => rfl⟩
theorem Only.trans {F : List Nat} {a b c : World} (h : Only F a b) (k : Only F b c) : Only F a c :=
  ⟨k.os.trans h.os, k.tape.trans h.tape, k.output.trans h.output, Nat.le_trans h.size k.size, fun i hi hn => (k.block i (Nat.lt_of_lt_of_le hi h.size) hn).trans (h.block i hi hn)⟩
theorem Only.sub {F F' : List Nat} {a b : World} (h : Only F a b) (hs : ∀ x ∈ F, x ∈ F') : Only F' a b := ⟨h.os, h.tape, h.output, h.size, fun i hi hn => h.block i hi fun hx => hn (hs i hx)⟩
theorem Only.of_below {F : List Nat} {a b : World} (h : Below a.heap.size a b) : Only F a b := ⟨h.os, h.tape, h.output, h.size, fun i hi _ => h.block i hi⟩
theorem Only.below {F : List Nat} {a b : World} {B : Nat} (h : Only F a b) (hF : ∀ x ∈ F, B ≤ x) (hB : B ≤ a.heap.size) : Below B a b := ⟨h.os, h.tape, h.output, h.size, fun i hi => h.block i (by omega) fun hx => by have := hF i hx; omega⟩
theorem Only.set {F : List Nat} {a w : World} (h : Only F a w) {p : Addr} (hp : p.block ∈ F) (u : Value) : Only F a (w.setCell p u) :=
  h.trans ⟨rfl, rfl, rfl, by simp [World.setCell], fun k _ hn => Below.heap_setCell _ _ _ _ (by rintro rfl; exact hn hp)⟩
theorem Only.alloc {F : List Nat} {a w : World} (h : Only F a w) (o : Obj) : Only F a (w.alloc o) := h.trans (Only.of_below ((Below.refl _ _).alloc (Nat.le_refl _) _))
theorem Only.drewN {F : List Nat} {a w : World} (h : Only F a w) (n : Nat) : Only F a (w.drewN n) := ⟨h.os, h.tape, h.output, h.size, h.block⟩
theorem Only.of_grown {a b : World} {row : Option Nat} (h : a.grownBy b row) : Only row.toList a b := ⟨h.os, h.tape, h.output, h.size, fun i hi hn => h.block i hi (by rintro rfl; simp at hn)⟩

/-- a row of numbers of its own: F its block, if it has one -/
structure OwnI (w : World) (lo : Nat) (v : Value) (xs : List Int) (F : List Nat) : Prop where
  row : w.ownsRow lo 3 1 v xs.length (ints xs)
  wf : ∀ x ∈ xs, (Lit.int .i64 x).wf = true
  foot : F = v.ownBlock.toList
theorem ownsRow_heap {w w' : World} {base : Nat} {e : TypeId} {size n : Nat} {v : Value} {xs : List Value} (h : w.ownsRow base e size v n xs) (hk : ∀ b, v.ownBlock = some b → w'.heap[b]? = w.heap[b]?) : w'.ownsRow base e size v n xs := by
  refine ⟨h.1, ?_⟩
  rcases h.2 with h | ⟨g, cap, cur, rfl, hg, hh, r⟩
  · exact .inl h
  · exact .inr ⟨g, cap, cur, rfl, hg, (hk g rfl).trans hh, r⟩
section
variable {w w' : World} {lo : Nat} {v : Value} {xs : List Int} {F : List Nat}
theorem OwnI.keep (h : OwnI w lo v xs F) (hk : ∀ b ∈ F, w'.heap[b]? = w.heap[b]?) : OwnI w' lo v xs F :=
  ⟨ownsRow_heap h.row fun b hb => hk b (by rw [h.foot, hb]; simp), h.wf, h.foot⟩
theorem OwnI.lt (h : OwnI w lo v xs F) : ∀ b ∈ F, lo ≤ b ∧ b < w.heap.size := fun b hb => h.row.lt b (by rw [h.foot] at hb; simpa using hb)
theorem OwnI.nodup (h : OwnI w lo v xs F) : F.Nodup := by rw [h.foot]; cases v.ownBlock <;> simp
theorem OwnI.rd (h : OwnI w lo v xs F) : ∃ A c, v = .slice A xs.length c ∧ RdI .i64 w w.heap.size A xs.length c xs := by
  obtain ⟨A, c, hv⟩ := own_form h.row
  subst hv
  exact ⟨A, c, rfl, rdI_own h.row h.wf⟩
theorem OwnI.mono {lo' : Nat} (h : OwnI w lo v xs F) (hl : lo' ≤ lo) : OwnI w lo' v xs F := ⟨own_mono h.row hl, h.wf, h.foot⟩
theorem OwnI.below (h : OwnI w lo v xs F) (hb : Below w.heap.size w w') : OwnI w' lo v xs F := h.keep fun b hx => hb.block b (h.lt b hx).2
end

/-- the deeds' cells in a row: each need a row of its own -/
def OwnD (w : World) (lo : Nat) (cells : List Value) (i : Nat) (d : DeedD) (F : List Nat) : Prop :=
  ∃ nv, cells[i * 4]? = some nv ∧ cells[i * 4 + 1]? = some (.int .i64 d.on) ∧ cells[i * 4 + 2]? = some (.int .i64 d.off) ∧ cells[i * 4 + 3]? = some (.int .i64 d.flip) ∧ OwnI w lo nv d.need F ∧ d.need.length ≤ 1048576 ∧
    (Lit.int .i64 d.on).wf = true ∧ (Lit.int .i64 d.off).wf = true ∧ (Lit.int .i64 d.flip).wf = true
structure OwnDs (w : World) (lo : Nat) (v : Value) (ds : List DeedD) (F : List Nat) (cells : List Value) (Fs : List (List Nat)) : Prop where
  row : w.ownsRow lo 83 4 v ds.length cells
  small : ds.length ≤ 1048576
  flen : Fs.length = ds.length
  foot : F = v.ownBlock.toList ++ Fs.flatten
  deed : ∀ (i : Nat) d Fi, ds[i]? = some d → Fs[i]? = some Fi → OwnD w lo cells i d Fi
section
variable {w w' : World} {lo : Nat} {v : Value} {ds : List DeedD} {F : List Nat} {cells : List Value} {Fs : List (List Nat)}
theorem OwnD.keep {i : Nat} {d : DeedD} {Fi : List Nat} (h : OwnD w lo cells i d Fi) (hk : ∀ b ∈ Fi, w'.heap[b]? = w.heap[b]?) : OwnD w' lo cells i d Fi := by
  obtain ⟨nv, h0, h1, h2, h3, h4, r⟩ := h
  exact ⟨nv, h0, h1, h2, h3, h4.keep hk, r⟩
theorem mem_flat {Fs : List (List Nat)} {i : Nat} {Fi : List Nat} (h : Fs[i]? = some Fi) {b : Nat} (hb : b ∈ Fi) : b ∈ Fs.flatten := List.mem_flatten.2 ⟨Fi, List.mem_of_getElem? h, hb⟩
theorem OwnDs.keep (h : OwnDs w lo v ds F cells Fs) (hk : ∀ b ∈ F, w'.heap[b]? = w.heap[b]?) : OwnDs w' lo v ds F cells Fs :=
  ⟨ownsRow_heap h.row fun b hb => hk b (by rw [h.foot, hb]; simp), h.small, h.flen, h.foot, fun i d Fi hd hF => (h.deed i d Fi hd hF).keep fun b hb => hk b (by rw [h.foot]; exact List.mem_append_right _ (mem_flat hF hb))⟩
theorem OwnDs.lt (h : OwnDs w lo v ds F cells Fs) : ∀ b ∈ F, lo ≤ b ∧ b < w.heap.size := fun b hb => by
  rw [h.foot] at hb
  rcases List.mem_append.1 hb with hb | hb
  · exact h.row.lt b (by simpa using hb)
  · obtain ⟨Fi, hF, hb⟩ := List.mem_flatten.1 hb
    obtain ⟨i, hi⟩ := List.mem_iff_getElem?.1 hF
    have hl : i < ds.length := by rw [← h.flen]; exact (List.getElem?_eq_some_iff.1 hi).1
    obtain ⟨nv, _, _, _, _, h4, _⟩ := h.deed i _ _ (List.getElem?_eq_getElem hl) hi
    exact h4.lt b hb
theorem OwnDs.mono {lo' : Nat} (h : OwnDs w lo v ds F cells Fs) (hl : lo' ≤ lo) : OwnDs w lo' v ds F cells Fs :=
  ⟨own_mono h.row hl, h.small, h.flen, h.foot, fun i d Fi hd hF => by
    obtain ⟨nv, h0, h1, h2, h3, h4, r⟩ := h.deed i d Fi hd hF
    exact ⟨nv, h0, h1, h2, h3, h4.mono hl, r⟩⟩
theorem OwnDs.below (h : OwnDs w lo v ds F cells Fs) (hb : Below w.heap.size w w') : OwnDs w' lo v ds F cells Fs := h.keep fun b hx => hb.block b (h.lt b hx).2
theorem OwnDs.rd (h : OwnDs w lo v ds F cells Fs) : ∃ A c, v = .slice A ds.length c ∧ RdDs w w.heap.size A ds.length c ds := by
  rcases h.row.2 with ⟨rfl, h0⟩ | ⟨g, cap, cur, rfl, hg, hh, h3, h4, h5, h6⟩
  · exact ⟨none, 0, by rw [h0], rfl, by omega, by unfold maxLen; omega, h.small, fun hn => by omega⟩
  · refine ⟨_, _, rfl, rfl, h3, h4, h.small, fun _ => ⟨g, 0, rfl, (Array.getElem?_eq_some_iff.1 hh).1, fun i d hd => ?_⟩⟩
    have hl : i < ds.length := (List.getElem?_eq_some_iff.1 hd).1
    obtain ⟨nv, q0, q1, q2, q3, q4, q5, q6⟩ := h.deed i d (Fs[i]'(by rw [h.flen]; exact hl)) hd (List.getElem?_eq_getElem _)
    have hcell : ∀ j u, cells[j]? = some u → w.cell? ⟨g, j, none⟩ = some u := fun j u hu => by
      have hj : j < ds.length * 4 := by rw [← h.row.1]; exact (List.getElem?_eq_some_iff.1 hu).1
      exact (h.row.cellAt j hj).trans hu
    obtain ⟨A, c, rfl, hr⟩ := q4.rd
    rw [Nat.zero_add]
    exact ⟨A, _, c, hcell _ _ q0, hcell _ _ q1, hcell _ _ q2, hcell _ _ q3, hr, q5, q6⟩
end

/-- a task of its own -/
def OwnT (w : World) (lo : Nat) (v : Value) (t : TaskD) (F : List Nat) : Prop :=
  ∃ gv dv Fg Fd cells Fs, v = .agg #[.int .i64 t.start, gv, dv] ∧ OwnI w lo gv t.goal Fg ∧ t.goal.length ≤ 1048576 ∧ OwnDs w lo dv t.deeds Fd cells Fs ∧ F = Fg ++ Fd ∧ (Lit.int .i64 t.start).wf = true
section
variable {w w' : World} {lo : Nat} {v : Value} {t : TaskD} {F : List Nat}
theorem OwnT.keep (h : OwnT w lo v t F) (hk : ∀ b ∈ F, w'.heap[b]? = w.heap[b]?) : OwnT w' lo v t F := by
  obtain ⟨gv, dv, Fg, Fd, cells, Fs, e, h1, h2, h3, rfl, h4⟩ := h
  exact ⟨gv, dv, Fg, Fd, cells, Fs, e, h1.keep fun b hb => hk b (List.mem_append_left _ hb), h2, h3.keep fun b hb => hk b (List.mem_append_right _ hb), rfl, h4⟩
theorem OwnT.lt (h : OwnT w lo v t F) : ∀ b ∈ F, lo ≤ b ∧ b < w.heap.size := by
  obtain ⟨gv, dv, Fg, Fd, cells, Fs, e, h1, h2, h3, rfl, h4⟩ := h
  intro b hb
  rcases List.mem_append.1 hb with hb | hb
  · exact h1.lt b hb
  · exact h3.lt b hb
theorem OwnT.mono {lo' : Nat} (h : OwnT w lo v t F) (hl : lo' ≤ lo) : OwnT w lo' v t F := by
  obtain ⟨gv, dv, Fg, Fd, cells, Fs, e, h1, h2, h3, rfl, h4⟩ := h
  exact ⟨gv, dv, Fg, Fd, cells, Fs, e, h1.mono hl, h2, h3.mono hl, rfl, h4⟩
theorem OwnT.below (h : OwnT w lo v t F) (hb : Below w.heap.size w w') : OwnT w' lo v t F := h.keep fun b hx => hb.block b (h.lt b hx).2
theorem OwnT.rd (h : OwnT w lo v t F) : RdT w w.heap.size v t := by
  obtain ⟨gv, dv, Fg, Fd, cells, Fs, rfl, h1, h2, h3, rfl, h4⟩ := h
  obtain ⟨A, c, rfl, hg⟩ := h1.rd
  obtain ⟨A', c', rfl, hd⟩ := h3.rd
  exact ⟨A, _, c, A', _, c', rfl, hg, h2, hd, h4⟩
end
end Go.Proofs.Ytkebgldeahklmaa

/- A row of deeds that is filled from its beginning on. -/
namespace Go.Proofs.Ytkebgldeahklmaa
open Go.ChangeShapes Go.WideShapes Go.ChangeAt Go.RowKit

/-- the four cells of a deed laid at place k -/
def setD (cells : List Value) (k : Nat) (nv : Value) (d : DeedD) : List Value :=
  (((cells.set (k * 4) nv).set (k * 4 + 1) (.int .i64 d.on)).set (k * 4 + 2) (.int .i64 d.off)).set (k * 4 + 3) (.int .i64 d.flip)
theorem setD_len (cells : List Value) (k : Nat) (nv : Value) (d : DeedD) : (setD cells k nv d).length = cells.length := by simp [setD]
theorem setD_other (cells : List Value) (k : Nat) (nv : Value) (d : DeedD) (j : Nat) (h : j < k * 4 ∨ k * 4 + 4 ≤ j) : (setD cells k nv d)[j]? = cells[j]? := by
  unfold setD
  rw [List.getElem?_set_ne (by omega), List.getElem?_set_ne (by omega), List.getElem?_set_ne (by omega), List.getElem?_set_ne (by omega)]
theorem setD_at (cells : List Value) (k : Nat) (nv : Value) (d : DeedD) (h : k * 4 + 3 < cells.length) :
    (setD cells k nv d)[k * 4]? = some nv ∧ (setD cells k nv d)[k * 4 + 1]? = some (.int .i64 d.on) ∧ (setD cells k nv d)[k * 4 + 2]? = some (.int .i64 d.off) ∧ (setD cells k nv d)[k * 4 + 3]? = some (.int .i64 d.flip) := by
  unfold setD
  refine ⟨?_, ?_, ?_, ?_⟩
  · rw [List.getElem?_set_ne (by omega), List.getElem?_set_ne (by omega), List.getElem?_set_ne (by omega), List.getElem?_set_self (by omega)]
  · rw [List.getElem?_set_ne (by omega), List.getElem?_set_ne (by omega), List.getElem?_set_self (by simp; omega)]
  · rw [List.getElem?_set_ne (by omega), List.getElem?_set_self (by simp; omega)]
  · rw [List.getElem?_set_self (by simp; omega)]
/-- block g is a row for all deeds, of which the first k are laid -/
structure PartDs (w : World) (g : Nat) (ds : List DeedD) (k : Nat) (cells : List Value) (Fs : List (List Nat)) : Prop where
  blk : Blk w g 83 cells.toArray
  clen : cells.length = ds.length * 4
  flen : Fs.length = k
  deed : ∀ (i : Nat) d Fi, ds[i]? = some d → Fs[i]? = some Fi → OwnD w (g + 1) cells i d Fi
  nodup : Fs.flatten.Nodup

theorem PartDs.lt {w : World} {g : Nat} {ds : List DeedD} {k : Nat} {cells : List Value} {Fs : List (List Nat)} (h : PartDs w g ds k cells Fs) (hk : k ≤ ds.length) : ∀ b ∈ Fs.flatten, g + 1 ≤ b ∧ b < w.heap.size := fun b hb => by
  obtain ⟨Fi, hF, hb⟩ := List.mem_flatten.1 hb
  obtain ⟨i, hi⟩ := List.mem_iff_getElem?.1 hF
  have hl : i < ds.length := by have := (List.getElem?_eq_some_iff.1 hi).1; have := h.flen; omega
  obtain ⟨nv, _, _, _, _, h4, _⟩ := h.deed i _ _ (List.getElem?_eq_getElem hl) hi
  exact h4.lt b hb
theorem PartDs.keep {w w' : World} {g : Nat} {ds : List DeedD} {k : Nat} {cells : List Value} {Fs : List (List Nat)} (h : PartDs w g ds k cells Fs) (hk : k ≤ ds.length) (hb : Below w.heap.size w w') : PartDs w' g ds k cells Fs :=
  ⟨h.blk.below hb h.blk.lt, h.clen, h.flen, fun i d Fi hd hF => (h.deed i d Fi hd hF).keep fun b hx => hb.block b (h.lt hk b (mem_flat hF hx)).2, h.nodup⟩
theorem PartDs.next {w w2 w3 : World} {g : Nat} {ds : List DeedD} {k : Nat} {cells : List Value} {Fs : List (List Nat)} (h : PartDs w g ds k cells Fs) (d : DeedD) (hd : ds[k]? = some d) (nv : Value) (F : List Nat)
    (hb : Below w.heap.size w w2) (ho : OwnI w2 w.heap.size nv d.need F) (hs : d.need.length ≤ 1048576) (hwf : (Lit.int .i64 d.on).wf = true ∧ (Lit.int .i64 d.off).wf = true ∧ (Lit.int .i64 d.flip).wf = true)
    (hblk : Blk w3 g 83 (setD cells k nv d).toArray) (hon : ∀ b, b ≠ g → b < w2.heap.size → w3.heap[b]? = w2.heap[b]?) : PartDs w3 g ds (k + 1) (setD cells k nv d) (Fs ++ [F]) := by
  have hk : k < ds.length := (List.getElem?_eq_some_iff.1 hd).1
  have h2 := h.keep (by omega) hb
  have hgl := h.blk.lt
  have hkF : ∀ b ∈ Fs.flatten, w3.heap[b]? = w2.heap[b]? := fun b hx => by
    have := h2.lt (by omega) b hx
    exact hon b (by omega) this.2
  refine ⟨hblk, by rw [setD_len]; exact h.clen, by simp [h.flen], fun i e Fi he hF => ?_, ?_⟩
  · rcases Nat.lt_or_ge i k with hi | hi
    · rw [List.getElem?_append_left (by rw [h.flen]; exact hi)] at hF
      obtain ⟨nv', q0, q1, q2, q3, q4, r⟩ := h2.deed i e Fi he hF
      refine ⟨nv', ?_, ?_, ?_, ?_, q4.keep fun b hx => hkF b (mem_flat hF hx), r⟩
      · rw [setD_other _ _ _ _ _ (by omega)]; exact q0
      · rw [setD_other _ _ _ _ _ (by omega)]; exact q1
      · rw [setD_other _ _ _ _ _ (by omega)]; exact q2
      · rw [setD_other _ _ _ _ _ (by omega)]; exact q3
    · have hik : i = k := by
        have := (List.getElem?_eq_some_iff.1 hF).1
        simp [h.flen] at this
        omega
      subst hik
      have := he.symm.trans hd
      injection this with this
      subst this
      rw [List.getElem?_append_right (by rw [h.flen]; exact Nat.le_refl _), h.flen, Nat.sub_self] at hF
      simp only [List.getElem?_cons_zero, Option.some.injEq] at hF
      subst hF
      obtain ⟨q0, q1, q2, q3⟩ := setD_at cells i nv e (by rw [h.clen]; omega)
      refine ⟨nv, q0, q1, q2, q3, (ho.keep fun b hx => hon b ?_ (ho.lt b hx).2).mono (by omega), hs, hwf⟩
      have := (ho.lt b hx).1
      omega
  · rw [List.flatten_append, List.nodup_append]
    refine ⟨h.nodup, by simpa using ho.nodup, fun a ha b hb' => ?_⟩
    have h1 := (h.lt (by omega) a ha).2
    have h3 := (ho.lt b (by simpa using hb')).1
    omega
theorem PartDs.done {w : World} {g : Nat} {ds : List DeedD} {cells : List Value} {Fs : List (List Nat)} (h : PartDs w g ds ds.length cells Fs) (hs : ds.length ≤ 1048576) {lo : Nat} (hlo : lo ≤ g) :
    OwnDs w lo (.slice (some ⟨g, 0, none⟩) ds.length ds.length) ds (g :: Fs.flatten) cells Fs ∧ (g :: Fs.flatten).Nodup :=
  ⟨⟨⟨h.clen, .inr ⟨g, ds.length, cells.toArray, rfl, hlo, h.blk, Nat.le_refl _, by unfold maxLen; omega, by simpa using h.clen, by rw [List.take_of_length_le (by simpa using (Nat.le_of_eq h.clen))]⟩⟩, hs, h.flen, rfl, fun i d Fi hd hF => by
      obtain ⟨nv, q0, q1, q2, q3, q4, r⟩ := h.deed i d Fi hd hF
      exact ⟨nv, q0, q1, q2, q3, q4.mono (by omega), r⟩⟩, List.nodup_cons.2 ⟨fun hx => by have := (h.lt (Nat.le_refl _) g hx).1; omega, h.nodup⟩⟩
end Go.Proofs.Ytkebgldeahklmaa

/- The laws' helpers on slices of numbers: toIntS, eqIntS. Condition: at most 2^40 numbers. -/
namespace Go.Proofs.Ytkebgldeahklmaa
open Go.ChangeShapes Go.WideShapes Go.ChangeAt Go.RowKit

def fillI (xs : List Int) (k : Nat) : Array Value := (ints (xs.take k ++ List.replicate (xs.length - k) 0)).toArray
theorem fillI_at (xs : List Int) (k : Nat) (hk : k < xs.length) : (fillI xs k)[k]? = some (.int .i64 0) := by
  unfold fillI ints
  simp only [List.getElem?_toArray, List.getElem?_map, Option.map_eq_some_iff]
  refine ⟨0, ?_, rfl⟩
  rw [List.getElem?_append_right (by simp only [List.length_take]; omega)]
  simp only [List.length_take, List.getElem?_replicate]
  rw [if_pos (by omega)]
theorem fillI_step (xs : List Int) (k : Nat) (x : Int) (hx : xs[k]? = some x) : (fillI xs k).setIfInBounds k (.int .i64 x) = fillI xs (k + 1) := by
  have hk : k < xs.length := (List.getElem?_eq_some_iff.1 hx).1
  apply Array.ext'
  unfold fillI ints
  simp only [Array.toList_setIfInBounds]
  apply List.ext_getElem?
  intro i
  rw [List.getElem?_set]
  simp only [List.getElem?_map, List.length_map, List.length_append, List.length_take, List.length_replicate]
  have e1 : min k xs.length = k := by omega
  have e2 : min (k + 1) xs.length = k + 1 := by omega
  rcases Nat.lt_trichotomy k i with h | h | h
  · rw [if_neg (by omega), List.getElem?_append_right (by simp; omega), List.getElem?_append_right (by simp; omega)]
    simp only [List.length_take, List.getElem?_replicate, e1, e2]
    by_cases h2 : i < xs.length
    · rw [if_pos (by omega), if_pos (by omega)]
    · rw [if_neg (by omega), if_neg (by omega)]
  · subst h
    rw [if_pos rfl, if_pos (by omega), List.getElem?_append_left (by simp; omega), List.getElem?_take, if_pos (by omega), hx]; rfl
  · rw [if_neg (by omega), List.getElem?_append_left (by simp; omega), List.getElem?_append_left (by simp; omega), List.getElem?_take, List.getElem?_take, if_pos (by omega), if_pos (by omega)]
theorem fillI_done (xs : List Int) : (fillI xs xs.length).toList = ints xs := by simp [fillI]
end Go.Proofs.Ytkebgldeahklmaa

/- The laws' helpers that copy an argument: toDeed, toDeedS, toTask: each hands back the same data in new memory of its own. -/
namespace Go.Proofs.Ytkebgldeahklmaa
open Go.ChangeShapes Go.WideShapes Go.ChangeAt Go.RowKit

theorem elDeed : ElemT Try.prog 24 83 (.agg #[.slice none 0 0, .int .i64 0, .int .i64 0, .int .i64 0]) 4 48 := ⟨Try.underlying24, info_parts (by kernel_rfl), rfl, by omega⟩

end Go.Proofs.Ytkebgldeahklmaa
