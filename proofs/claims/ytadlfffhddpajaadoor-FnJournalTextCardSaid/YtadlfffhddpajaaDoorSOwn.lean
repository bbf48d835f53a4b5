/- Joined texts: Own, Sz, Part, To, Eq, Mark, Mark2. -/
import Derived.Test.YtadlfffhddpajaaDoorSDeed
import Derived.Test.YtadlfffhddpajaaDoorSPure
import Derived.StillTailTactics
/- What a call hands back in new memory: rows of its own, each in a block that no other part shares. No program in sight but for type numbers. -/
namespace Go.Proofs.YtadlfffhddpajaaDoor
open Go.ChangeShapes Go.WideShapes Go.ChangeAt Go.RowKit

/-- only the blocks of F have turned, of those that were there -/
structure Only (F : List Nat) (w w' : World) : Prop where
  os : w'.os = w.os
  tape : w'.tape = w.tape
  output : w'.output = w.output
  size : w.heap.size ≤ w'.heap.size
  block : ∀ k, k < w.heap.size → k ∉ F → w'.heap[k]? = w.heap[k]?
theorem Only.refl (F : List Nat) (w : World) : Only F w w := ⟨rfl, rfl, rfl, Nat.le_refl _, fun _ _ _ => rfl⟩
theorem Only.trans {F : List Nat} {a b c : World} (h : Only F a b) (k : Only F b c) : Only F a c :=
  ⟨k.os.trans h.os, k.tape.trans h.tape, k.output.trans h.output, Nat.le_trans h.size k.size, fun i hi hn => (k.block i (Nat.lt_of_lt_of_le hi h.size) hn).trans (h.block i hi hn)⟩
theorem Only.sub {F F' : List Nat} {a b : World} (h : Only F a b) (hs : ∀ x ∈ F, x ∈ F') : Only F' a b := ⟨h.os, h.tape, h.output, h.size, fun i hi hn => h.block i hi fun hx => hn (hs i hx)⟩
theorem Only.of_below {F : List Nat} {a b : World} (h : Below a.heap.size a b) : Only F a b := ⟨h.os, h.tape, h.output, h.size, fun i hi _ => h.block i hi⟩
theorem Only.below {F : List Nat} {a b : World} {B : Nat} (h : Only F a b) (hF : ∀ x ∈ F, B ≤ x) (hB : B ≤ a.heap.size) : Below B a b := ⟨h.os, h.tape, h.output, h.size, fun i hi => h.block i (by omega) fun hx => by have := hF i hx; omega⟩
theorem Only.set {F : List Nat} {a w : World} (h : Only F a w) {p : Addr} (hp : p.block ∈ F) (u : Value) : Only F a (w.setCell p u) :=
  h.trans ⟨rfl, rfl, rfl, by simp [World.setCell], fun k _ hn => Below.heap_setCell _ _ _ _ (by rintro rfl; exact hn hp)⟩
theorem Only.alloc {F : List Nat} {a w : World} (h : Only F a w) (o : Obj) : Only F a (w.alloc o) := h.trans (Only.of_below ((Below.refl _ _).alloc (Nat.le_refl _) _))
theorem Only.drewN {F : List Nat} {a w : World} (h : Only F a w) (n : Nat) : Only F a (w.drewN n) := ⟨h.os, h.tape, h.output, h.size, h.block⟩
theorem Only.of_grown {a b : World} {row : Option Nat} (h : a.grownBy b row) : Only row.toList a b := ⟨h.os, h.tape, h.output, h.size, fun i hi hn => h.block i hi (by rintro rfl; simp at hn)⟩

/-- a row of numbers of its own: F its block, if it has one -/
structure OwnI (w : World) (lo : Nat) (v : Value) (xs : List Int) (F : List Nat) : Prop where
  row : w.ownsRow lo 3 1 v xs.length (ints xs)
  wf : ∀ x ∈ xs, (Lit.int .i64 x).wf = true
  foot : F = v.ownBlock.toList
theorem ownsRow_heap {w w' : World} {base : Nat} {e : TypeId} {size n : Nat} {v : Value} {xs : List Value} (h : w.ownsRow base e size v n xs) (hk : ∀ b, v.ownBlock = some b → w'.heap[b]? = w.heap[b]?) : w'.ownsRow base e size v n xs := by
  refine ⟨h.1, ?_⟩
  rcases h.2 with h | ⟨g, cap, cur, rfl, hg, hh, r⟩
  · exact .inl h
  · exact .inr ⟨g, cap, cur, rfl, hg, (hk g rfl).trans hh, r⟩
section
variable {w w' : World} {lo : Nat} {v : Value} {xs : List Int} {F : List Nat}
theorem OwnI.keep (h : OwnI w lo v xs F) (hk : ∀ b ∈ F, w'.heap[b]? = w.heap[b]?) : OwnI w' lo v xs F :=
  ⟨ownsRow_heap h.row fun b hb => hk b (by rw [h.foot, hb]; simp), h.wf, h.foot⟩
theorem OwnI.lt (h : OwnI w lo v xs F) : ∀ b ∈ F, lo ≤ b ∧ b < w.heap.size := fun b hb => h.row.lt b (by rw [h.foot] at hb; simpa using hb)
theorem OwnI.nodup (h : OwnI w lo v xs F) : F.Nodup := by rw [h.foot]; cases v.ownBlock <;> simp
theorem OwnI.rd (h : OwnI w lo v xs F) : ∃ A c, v = .slice A xs.length c ∧ RdI .i64 w w.heap.size A xs.length c xs := by
  obtain ⟨A, c, hv⟩ := own_form h.row
  subst hv
  exact ⟨A, c, rfl, rdI_own h.row h.wf⟩
theorem OwnI.mono {lo' : Nat} (h : OwnI w lo v xs F) (hl : lo' ≤ lo) : OwnI w lo' v xs F := ⟨own_mono h.row hl, h.wf, h.foot⟩
theorem OwnI.below (h : OwnI w lo v xs F) (hb : Below w.heap.size w w') : OwnI w' lo v xs F := h.keep fun b hx => hb.block b (h.lt b hx).2
end

/-- the deeds' cells in a row: each need a row of its own -/
def OwnD (w : World) (lo : Nat) (cells : List Value) (i : Nat) (d : DeedD) (F : List Nat) : Prop :=
  ∃ nv, cells[i * 4]? = some nv ∧ cells[i * 4 + 1]? = some (.int .i64 d.on) ∧ cells[i * 4 + 2]? = some (.int .i64 d.off) ∧ cells[i * 4 + 3]? = some (.int .i64 d.flip) ∧ OwnI w lo nv d.need F ∧ d.need.length ≤ 1048576 ∧
    (Lit.int .i64 d.on).wf = true ∧ (Lit.int .i64 d.off).wf = true ∧ (Lit.int .i64 d.flip).wf = true
structure OwnDs (w : World) (lo : Nat) (v : Value) (ds : List DeedD) (F : List Nat) (cells : List Value) (Fs : List (List Nat)) : Prop where
  row : w.ownsRow lo 101 4 v ds.length cells
  small : ds.length ≤ 1048576
  flen : Fs.length = ds.length
  foot : F = v.ownBlock.toList ++ Fs.flatten
  deed : ∀ (i : Nat) d Fi, ds[i]? = some d → Fs[i]? = some Fi → OwnD w lo cells i d Fi
section
variable {w w' : World} {lo : Nat} {v : Value} {ds : List DeedD} {F : List Nat} {cells : List Value} {Fs : List (List Nat)}
theorem OwnD.keep {i : Nat} {d : DeedD} {Fi : List Nat} (h : OwnD w lo cells i d Fi) (hk : ∀ b ∈ Fi, w'.heap[b]? = w.heap[b]?) : OwnD w' lo cells i d Fi := by
  obtain ⟨nv, h0, h1, h2, h3, h4, r⟩ := h
  exact ⟨nv, h0, h1, h2, h3, h4.keep hk, r⟩
theorem mem_flat {Fs : List (List Nat)} {i : Nat} {Fi : List Nat} (h : Fs[i]? = some Fi) {b : Nat} (hb : b ∈ Fi) : b ∈ Fs.flatten := List.mem_flatten.2 ⟨Fi, List.mem_of_getElem? h, hb⟩
theorem OwnDs.keep (h : OwnDs w lo v ds F cells Fs) (hk : ∀ b ∈ F, w'.heap[b]? = w.heap[b]?) : OwnDs w' lo v ds F cells Fs :=
  ⟨ownsRow_heap h.row fun b hb => hk b (by rw [h.foot, hb]; simp), h.small, h.flen, h.foot, fun i d Fi hd hF => (h.deed i d Fi hd hF).keep fun b hb => hk b (by rw [h.foot]; exact List.mem_append_right _ (mem_flat hF hb))⟩
theorem OwnDs.lt (h : OwnDs w lo v ds F cells Fs) : ∀ b ∈ F, lo ≤ b ∧ b < w.heap.size := fun b hb => by
  rw [h.foot] at hb
  rcases List.mem_append.1 hb with hb | hb
  · exact h.row.lt b (by simpa using hb)
  · obtain ⟨Fi, hF, hb⟩ := List.mem_flatten.1 hb
    obtain ⟨i, hi⟩ := List.mem_iff_getElem?.1 hF
    have hl : i < ds.length := by rw [← h.flen]; exact (List.getElem?_eq_some_iff.1 hi).1
    obtain ⟨nv, _, _, _, _, h4, _⟩ := h.deed i _ _ (List.getElem?_eq_getElem hl) hi
    exact h4.lt b hb
theorem OwnDs.mono {lo' : Nat} (h : OwnDs w lo v ds F cells Fs) (hl : lo' ≤ lo) : OwnDs w lo' v ds F cells Fs :=
  ⟨own_mono h.row hl, h.small, h.flen, h.foot, fun i d Fi hd hF => by
    obtain ⟨nv, h0, h1, h2, h3, h4, r⟩ := h.deed i d Fi hd hF
    exact ⟨nv, h0, h1, h2, h3, h4.mono hl, r⟩⟩
theorem OwnDs.below (h : OwnDs w lo v ds F cells Fs) (hb : Below w.heap.size w w') : OwnDs w' lo v ds F cells Fs := h.keep fun b hx => hb.block b (h.lt b hx).2
theorem OwnDs.rd (h : OwnDs w lo v ds F cells Fs) : ∃ A c, v = .slice A ds.length c ∧ RdDs w w.heap.size A ds.length c ds := by
  rcases h.row.2 with ⟨rfl, h0⟩ | ⟨g, cap, cur, rfl, hg, hh, h3, h4, h5, h6⟩
  · exact ⟨none, 0, by rw [h0], rfl, by omega, by unfold maxLen; omega, h.small, fun hn => by omega⟩
  · refine ⟨_, _, rfl, rfl, h3, h4, h.small, fun _ => ⟨g, 0, rfl, (Array.getElem?_eq_some_iff.1 hh).1, fun i d hd => ?_⟩⟩
    have hl : i < ds.length := (List.getElem?_eq_some_iff.1 hd).1
    obtain ⟨nv, q0, q1, q2, q3, q4, q5, q6⟩ := h.deed i d (Fs[i]'(by rw [h.flen]; exact hl)) hd (List.getElem?_eq_getElem _)
    have hcell : ∀ j u, cells[j]? = some u → w.cell? ⟨g, j, none⟩ = some u := fun j u hu => by
      have hj : j < ds.length * 4 := by rw [← h.row.1]; exact (List.getElem?_eq_some_iff.1 hu).1
      exact (h.row.cellAt j hj).trans hu
    obtain ⟨A, c, rfl, hr⟩ := q4.rd
    rw [Nat.zero_add]
    exact ⟨A, _, c, hcell _ _ q0, hcell _ _ q1, hcell _ _ q2, hcell _ _ q3, hr, q5, q6⟩
end

/-- a task of its own -/
def OwnT (w : World) (lo : Nat) (v : Value) (t : TaskD) (F : List Nat) : Prop :=
  ∃ gv dv Fg Fd cells Fs, v = .agg #[.int .i64 t.start, gv, dv] ∧ OwnI w lo gv t.goal Fg ∧ t.goal.length ≤ 1048576 ∧ OwnDs w lo dv t.deeds Fd cells Fs ∧ F = Fg ++ Fd ∧ (Lit.int .i64 t.start).wf = true
section
variable {w w' : World} {lo : Nat} {v : Value} {t : TaskD} {F : List Nat}
theorem OwnT.keep (h : OwnT w lo v t F) (hk : ∀ b ∈ F, w'.heap[b]? = w.heap[b]?) : OwnT w' lo v t F := by
  obtain ⟨gv, dv, Fg, Fd, cells, Fs, e, h1, h2, h3, rfl, h4⟩ := h
  exact ⟨gv, dv, Fg, Fd, cells, Fs, e, h1.keep fun b hb => hk b (List.mem_append_left _ hb), h2, h3.keep fun b hb => hk b (List.mem_append_right _ hb), rfl, h4⟩
theorem OwnT.lt (h : OwnT w lo v t F) : ∀ b ∈ F, lo ≤ b ∧ b < w.heap.size := by
  obtain ⟨gv, dv, Fg, Fd, cells, Fs, e, h1, h2, h3, rfl, h4⟩ := h
  intro b hb
  rcases List.mem_append.1 hb with hb | hb
  · exact h1.lt b hb
  · exact h3.lt b hb
theorem OwnT.mono {lo' : Nat} (h : OwnT w lo v t F) (hl : lo' ≤ lo) : OwnT w lo' v t F := by
  obtain ⟨gv, dv, Fg, Fd, cells, Fs, e, h1, h2, h3, rfl, h4⟩ := h
  exact ⟨gv, dv, Fg, Fd, cells, Fs, e, h1.mono hl, h2, h3.mono hl, rfl, h4⟩
theorem OwnT.below (h : OwnT w lo v t F) (hb : Below w.heap.size w w') : OwnT w' lo v t F := h.keep fun b hx => hb.block b (h.lt b hx).2
theorem OwnT.rd (h : OwnT w lo v t F) : RdT w w.heap.size v t := by
  obtain ⟨gv, dv, Fg, Fd, cells, Fs, rfl, h1, h2, h3, rfl, h4⟩ := h
  obtain ⟨A, c, rfl, hg⟩ := h1.rd
  obtain ⟨A', c', rfl, hd⟩ := h3.rd
  exact ⟨A, _, c, A', _, c', rfl, hg, h2, hd, h4⟩
end
end Go.Proofs.YtadlfffhddpajaaDoor

/- The laws' helpers that count how much an argument holds: szIntS, szDeed, szDeedS, szTask. -/
namespace Go.Proofs.YtadlfffhddpajaaDoor
open Go.ChangeShapes Go.WideShapes Go.ChangeAt Go.RowKit

/-- what is left of a bound -/
def less (left : Int) (n : Nat) : Int := if (n : Int) ≤ left then left - n else -1
def szD (d : DeedD) : Nat := d.need.length
def szDs (ds : List DeedD) : Nat := ds.length + (ds.map szD).sum
def szT (t : TaskD) : Nat := t.goal.length + szDs t.deeds
theorem less_yes {left : Int} {n : Nat} (h : (n : Int) ≤ left) : less left n = left - n := by unfold less; rw [if_pos h]
theorem less_no {left : Int} {n : Nat} (h : ¬ (n : Int) ≤ left) : less left n = -1 := by unfold less; rw [if_neg h]

end Go.Proofs.YtadlfffhddpajaaDoor

/- A row of deeds that is filled from its beginning on. -/
namespace Go.Proofs.YtadlfffhddpajaaDoor
open Go.ChangeShapes Go.WideShapes Go.ChangeAt Go.RowKit

/-- the four cells of a deed laid at place k -/
def setD (cells : List Value) (k : Nat) (nv : Value) (d : DeedD) : List Value :=
  (((cells.set (k * 4) nv).set (k * 4 + 1) (.int .i64 d.on)).set (k * 4 + 2) (.int .i64 d.off)).set (k * 4 + 3) (.int .i64 d.flip)
theorem setD_len (cells : List Value) (k : Nat) (nv : Value) (d : DeedD) : (setD cells k nv d).length = cells.length := by simp [setD]
theorem setD_other (cells : List Value) (k : Nat) (nv : Value) (d : DeedD) (j : Nat) (h : j < k * 4 ∨ k * 4 + 4 ≤ j) : (setD cells k nv d)[j]? = cells[j]? := by
  unfold setD
  rw [List.getElem?_set_ne (by omega), List.getElem?_set_ne (by omega), List.getElem?_set_ne (by omega), List.getElem?_set_ne (by omega)]
theorem setD_at (cells : List Value) (k : Nat) (nv : Value) (d : DeedD) (h : k * 4 + 3 < cells.length) :
    (setD cells k nv d)[k * 4]? = some nv ∧ (setD cells k nv d)[k * 4 + 1]? = some (.int .i64 d.on) ∧ (setD cells k nv d)[k * 4 + 2]? = some (.int .i64 d.off) ∧ (setD cells k nv d)[k * 4 + 3]? = some (.int .i64 d.flip) := by
  unfold setD
  refine ⟨?_, ?_, ?_, ?_⟩
  · rw [List.getElem?_set_ne (by omega), List.getElem?_set_ne (by omega), List.getElem?_set_ne (by omega), List.getElem?_set_self (by omega)]
  · rw [List.getElem?_set_ne (by omega), List.getElem?_set_ne (by omega), List.getElem?_set_self (by simp; omega)]
  · rw [List.getElem?_set_ne (by omega), List.getElem?_set_self (by simp; omega)]
  · rw [List.getElem?_set_self (by simp; omega)]
/-- block g is a row for all deeds, of which the first k are laid -/
structure PartDs (w : World) (g : Nat) (ds : List DeedD) (k : Nat) (cells : List Value) (Fs : List (List Nat)) : Prop where
  blk : Blk w g 101 cells.toArray
  clen : cells.length = ds.length * 4
  flen : Fs.length = k
  deed : ∀ (i : Nat) d Fi, ds[i]? = some d → Fs[i]? = some Fi → OwnD w (g + 1) cells i d Fi
  nodup : Fs.flatten.Nodup

theorem PartDs.lt {w : World} {g : Nat} {ds : List DeedD} {k : Nat} {cells : List Value} {Fs : List (List Nat)} (h : PartDs w g ds k cells Fs) (hk : k ≤ ds.length) : ∀ b ∈ Fs.flatten, g + 1 ≤ b ∧ b < w.heap.size := fun b hb => by
  obtain ⟨Fi, hF, hb⟩ := List.mem_flatten.1 hb
  obtain ⟨i, hi⟩ := List.mem_iff_getElem?.1 hF
  have hl : i < ds.length := by have := (List.getElem?_eq_some_iff.1 hi).1; have := h.flen; omega
  obtain ⟨nv, _, _, _, _, h4, _⟩ := h.deed i _ _ (List.getElem?_eq_getElem hl) hi
  exact h4.lt b hb
theorem PartDs.keep {w w' : World} {g : Nat} {ds : List DeedD} {k : Nat} {cells : List Value} {Fs : List (List Nat)} (h : PartDs w g ds k cells Fs) (hk : k ≤ ds.length) (hb : Below w.heap.size w w') : PartDs w' g ds k cells Fs :=
  ⟨h.blk.below hb h.blk.lt, h.clen, h.flen, fun i d Fi hd hF => (h.deed i d Fi hd hF).keep fun b hx => hb.block b (h.lt hk b (mem_flat hF hx)).2, h.nodup⟩
theorem PartDs.next {w w2 w3 : World} {g : Nat} {ds : List DeedD} {k : Nat} {cells : List Value} {Fs : List (List Nat)} (h : PartDs w g ds k cells Fs) (d : DeedD) (hd : ds[k]? = some d) (nv : Value) (F : List Nat)
    (hb : Below w.heap.size w w2) (ho : OwnI w2 w.heap.size nv d.need F) (hs : d.need.length ≤ 1048576) (hwf : (Lit.int .i64 d.on).wf = true ∧ (Lit.int .i64 d.off).wf = true ∧ (Lit.int .i64 d.flip).wf = true)
    (hblk : Blk w3 g 101 (setD cells k nv d).toArray) (hon : ∀ b, b ≠ g → b < w2.heap.size → w3.heap[b]? = w2.heap[b]?) : PartDs w3 g ds (k + 1) (setD cells k nv d) (Fs ++ [F]) := by
  have hk : k < ds.length := (List.getElem?_eq_some_iff.1 hd).1
  have h2 := h.keep (by omega) hb
  have hgl := h.blk.lt
  have hkF : ∀ b ∈ Fs.flatten, w3.heap[b]? = w2.heap[b]? := fun b hx => by
    have := h2.lt (by omega) b hx
    exact hon b (by omega) this.2
  refine ⟨hblk, by rw [setD_len]; exact h.clen, by simp [h.flen], fun i e Fi he hF => ?_, ?_⟩
  · rcases Nat.lt_or_ge i k with hi | hi
    · rw [List.getElem?_append_left (by rw [h.flen]; exact hi)] at hF
      obtain ⟨nv', q0, q1, q2, q3, q4, r⟩ := h2.deed i e Fi he hF
      refine ⟨nv', ?_, ?_, ?_, ?_, q4.keep fun b hx => hkF b (mem_flat hF hx), r⟩
      · rw [setD_other _ _ _ _ _ (by omega)]; exact q0
      · rw [setD_other _ _ _ _ _ (by omega)]; exact q1
      · rw [setD_other _ _ _ _ _ (by omega)]; exact q2
      · rw [setD_other _ _ _ _ _ (by omega)]; exact q3
    · have hik : i = k := by
        have := (List.getElem?_eq_some_iff.1 hF).1
        simp [h.flen] at this
        omega
      subst hik
      have := he.symm.trans hd
      injection this with this
      subst this
      rw [List.getElem?_append_right (by rw [h.flen]; exact Nat.le_refl _), h.flen, Nat.sub_self] at hF
      simp only [List.getElem?_cons_zero, Option.some.injEq] at hF
      subst hF
      obtain ⟨q0, q1, q2, q3⟩ := setD_at cells i nv e (by rw [h.clen]; omega)
      refine ⟨nv, q0, q1, q2, q3, (ho.keep fun b hx => hon b ?_ (ho.lt b hx).2).mono (by omega), hs, hwf⟩
      have := (ho.lt b hx).1
      omega
  · rw [List.flatten_append, List.nodup_append]
    refine ⟨h.nodup, by simpa using ho.nodup, fun a ha b hb' => ?_⟩
    have h1 := (h.lt (by omega) a ha).2
    have h3 := (ho.lt b (by simpa using hb')).1
    omega
theorem PartDs.done {w : World} {g : Nat} {ds : List DeedD} {cells : List Value} {Fs : List (List Nat)} (h : PartDs w g ds ds.length cells Fs) (hs : ds.length ≤ 1048576) {lo : Nat} (hlo : lo ≤ g) :
    OwnDs w lo (.slice (some ⟨g, 0, none⟩) ds.length ds.length) ds (g :: Fs.flatten) cells Fs ∧ (g :: Fs.flatten).Nodup :=
  ⟨⟨⟨h.clen, .inr ⟨g, ds.length, cells.toArray, rfl, hlo, h.blk, Nat.le_refl _, by unfold maxLen; omega, by simpa using h.clen, by rw [List.take_of_length_le (by simpa using (Nat.le_of_eq h.clen))]⟩⟩, hs, h.flen, rfl, fun i d Fi hd hF => by
      obtain ⟨nv, q0, q1, q2, q3, q4, r⟩ := h.deed i d Fi hd hF
      exact ⟨nv, q0, q1, q2, q3, q4.mono (by omega), r⟩⟩, List.nodup_cons.2 ⟨fun hx => by have := (h.lt (Nat.le_refl _) g hx).1; omega, h.nodup⟩⟩
end Go.Proofs.YtadlfffhddpajaaDoor

/- The laws' helpers that copy an argument: toDeed, toDeedS, toTask: each hands back the same data in new memory of its own. -/
namespace Go.Proofs.YtadlfffhddpajaaDoor
open Go.ChangeShapes Go.WideShapes Go.ChangeAt Go.RowKit

theorem elDeed : ElemT Tryd.prog 58 101 (.agg #[.slice none 0 0, .int .i64 0, .int .i64 0, .int .i64 0]) 4 48 := ⟨Tryd.underlying58, info_parts (by kernel_rfl), rfl, by omega⟩

end Go.Proofs.YtadlfffhddpajaaDoor

/- The laws' helpers that compare: eqDeed, eqDeedS, eqTask: each tells whether the data are the same. -/
namespace Go.Proofs.YtadlfffhddpajaaDoor
open Go.ChangeShapes Go.WideShapes Go.ChangeAt Go.RowKit

end Go.Proofs.YtadlfffhddpajaaDoor

/- The laws' helpers that mark what a call handed back, and look whether the marks stand: markIntS, heldIntS, markDeedS, heldDeedS, markTask, heldTask. -/
namespace Go.Proofs.YtadlfffhddpajaaDoor
open Go.ChangeShapes Go.WideShapes Go.ChangeAt Go.RowKit

def marks (k n : Nat) : List Int := (List.range n).map fun i => ((k + i : Nat) : Int)
@[simp] theorem marks_len (k n : Nat) : (marks k n).length = n := by simp [marks]
theorem marks_get (k n i : Nat) (h : i < n) : (marks k n)[i]? = some ((k + i : Nat) : Int) := by unfold marks; rw [List.getElem?_map, List.getElem?_range h]; rfl
/-- the first i numbers marked -/
def mixI (k : Nat) (xs : List Int) (i : Nat) : List Int := marks k i ++ xs.drop i
def markD (k : Nat) (d : DeedD) : DeedD := ⟨marks k d.need.length, ((k + d.need.length : Nat) : Int), ((k + d.need.length + 1 : Nat) : Int), ((k + d.need.length + 2 : Nat) : Int)⟩
def mkD (d : DeedD) : Nat := d.need.length + 3
def mkDs (ds : List DeedD) : Nat := (ds.map mkD).sum
/-- the mark at which the deed at i begins -/
def markAt (k : Nat) (ds : List DeedD) (i : Nat) : Nat := k + ((ds.take i).map mkD).sum
def markDs (k : Nat) : List DeedD → List DeedD
  | [] => []
  | d :: ds => markD k d :: markDs (k + mkD d) ds
/-- the first i deeds marked -/
def mixD (k : Nat) (ds : List DeedD) (i : Nat) : List DeedD := (markDs k ds).take i ++ ds.drop i
def set3 (cells : List Value) (i : Nat) (a b c : Int) : List Value := ((cells.set (i * 4 + 1) (.int .i64 a)).set (i * 4 + 2) (.int .i64 b)).set (i * 4 + 3) (.int .i64 c)
theorem set3_other (cells : List Value) (i : Nat) (a b c : Int) (j : Nat) (h : j < i * 4 + 1 ∨ i * 4 + 4 ≤ j) : (set3 cells i a b c)[j]? = cells[j]? := by
  unfold set3; rw [List.getElem?_set_ne (by omega), List.getElem?_set_ne (by omega), List.getElem?_set_ne (by omega)]
theorem set3_at (cells : List Value) (i : Nat) (a b c : Int) (h : i * 4 + 3 < cells.length) : (set3 cells i a b c)[i * 4 + 1]? = some (.int .i64 a) ∧ (set3 cells i a b c)[i * 4 + 2]? = some (.int .i64 b) ∧ (set3 cells i a b c)[i * 4 + 3]? = some (.int .i64 c) := by
  unfold set3
  refine ⟨?_, ?_, ?_⟩
  · rw [List.getElem?_set_ne (by omega), List.getElem?_set_ne (by omega), List.getElem?_set_self (by omega)]
  · rw [List.getElem?_set_ne (by omega), List.getElem?_set_self (by simp; omega)]
  · rw [List.getElem?_set_self (by simp; omega)]

/-- one deed of a row of its own turned: its need in place, and its three sets -/
theorem OwnDs.turned {w w1 : World} {lo g n c : Nat} {ds : List DeedD} {F : List Nat} {cells : List Value} {Fs : List (List Nat)} (h : OwnDs w lo (.slice (some ⟨g, 0, none⟩) n c) ds F cells Fs) (hn : ds.length = n) (hnd : F.Nodup)
    (i : Nat) (d : DeedD) (hd : ds[i]? = some d) (nv : Value) (hnv : cells[i * 4]? = some nv) (Fi : List Nat) (hFi : Fs[i]? = some Fi) (e : DeedD) (hlen : e.need.length ≤ 1048576)
    (ho : OwnI w1 lo nv e.need Fi) (hon : Only Fi w w1) (hwf : (Lit.int .i64 e.on).wf = true ∧ (Lit.int .i64 e.off).wf = true ∧ (Lit.int .i64 e.flip).wf = true) :
    OwnDs (((w1.setCell ⟨g, i * 4 + 1, none⟩ (.int .i64 e.on)).setCell ⟨g, i * 4 + 2, none⟩ (.int .i64 e.off)).setCell ⟨g, i * 4 + 3, none⟩ (.int .i64 e.flip)) lo (.slice (some ⟨g, 0, none⟩) n c) (ds.set i e) F (set3 cells i e.on e.off e.flip) Fs ∧
    Only F w (((w1.setCell ⟨g, i * 4 + 1, none⟩ (.int .i64 e.on)).setCell ⟨g, i * 4 + 2, none⟩ (.int .i64 e.off)).setCell ⟨g, i * 4 + 3, none⟩ (.int .i64 e.flip)) := by
  subst hn
  have hi : i < ds.length := (List.getElem?_eq_some_iff.1 hd).1
  have hfoot := h.foot
  simp only [Value.ownBlock, Option.toList] at hfoot
  rw [hfoot] at hnd
  have hnd' := hnd
  rw [List.singleton_append, List.nodup_cons] at hnd
  obtain ⟨hgF, hflat⟩ := hnd
  have hgFi : g ∉ Fi := fun hx => hgF (mem_flat hFi hx)
  have hgw := h.row.lt g rfl
  have hrow1 : w1.ownsRow lo 101 4 (.slice (some ⟨g, 0, none⟩) ds.length c) ds.length cells := ownsRow_heap h.row fun b hb => by
    simp only [Value.ownBlock, Option.some.injEq] at hb
    subst hb
    exact hon.block _ hgw.2 hgFi
  have s1 := (hrow1.stored (i * 4 + 1) (.int .i64 e.on)).1
  have s2 := (s1.stored (i * 4 + 2) (.int .i64 e.off)).1
  have s3 := (s2.stored (i * 4 + 3) (.int .i64 e.flip)).1
  have hother : ∀ b, b ≠ g → (((w1.setCell ⟨g, i * 4 + 1, none⟩ (.int .i64 e.on)).setCell ⟨g, i * 4 + 2, none⟩ (.int .i64 e.off)).setCell ⟨g, i * 4 + 3, none⟩ (.int .i64 e.flip)).heap[b]? = w1.heap[b]? := fun b hb => by
    rw [Below.heap_setCell _ _ _ _ hb, Below.heap_setCell _ _ _ _ hb, Below.heap_setCell _ _ _ _ hb]
  have hcl : cells.length = ds.length * 4 := h.row.1
  refine ⟨⟨by rw [List.length_set]; exact s3, by rw [List.length_set]; exact h.small, by rw [List.length_set]; exact h.flen, h.foot, fun j d' Fj hd' hFj => ?_⟩, ?_⟩
  · by_cases hji : j = i
    · subst hji
      rw [List.getElem?_set_self hi] at hd'
      injection hd' with hd'
      subst hd'
      have := hFj.symm.trans hFi
      injection this with this
      subst this
      obtain ⟨c1, c2, c3⟩ := set3_at cells j e.on e.off e.flip (by omega)
      exact ⟨nv, (set3_other _ _ _ _ _ _ (by omega)).trans hnv, c1, c2, c3, ho.keep fun b hb => hother b (fun e => hgFi (by rw [← e]; exact hb)), hlen, hwf⟩
    · rw [List.getElem?_set_ne (by omega)] at hd'
      obtain ⟨nv', q0, q1, q2, q3, q4, r⟩ := h.deed j d' Fj hd' hFj
      refine ⟨nv', (set3_other _ _ _ _ _ _ (by omega)).trans q0, (set3_other _ _ _ _ _ _ (by omega)).trans q1, (set3_other _ _ _ _ _ _ (by omega)).trans q2, (set3_other _ _ _ _ _ _ (by omega)).trans q3, q4.keep fun b hb => ?_, r⟩
      have hbg : b ≠ g := fun e => hgF (by rw [← e]; exact mem_flat hFj hb)
      rw [hother b hbg]
      refine hon.block b (q4.lt b hb).2 fun hx => ?_
      -- b stands in two parts of a list without doubles
      have hj2 : j < Fs.length := (List.getElem?_eq_some_iff.1 hFj).1
      have hi2 : i < Fs.length := (List.getElem?_eq_some_iff.1 hFi).1
      have hp := List.pairwise_iff_getElem.1 (List.pairwise_flatten.1 hflat).2
      rcases Nat.lt_or_gt_of_ne hji with h1 | h1
      · exact hp j i hj2 hi2 h1 b (by rw [(List.getElem?_eq_some_iff.1 hFj).2]; exact hb) b (by rw [(List.getElem?_eq_some_iff.1 hFi).2]; exact hx) rfl
      · exact hp i j hi2 hj2 h1 b (by rw [(List.getElem?_eq_some_iff.1 hFi).2]; exact hx) b (by rw [(List.getElem?_eq_some_iff.1 hFj).2]; exact hb) rfl
  · have hsub : Only F w w1 := hon.sub fun x hx => by rw [h.foot]; exact List.mem_append_right _ (mem_flat hFi hx)
    have hgm : g ∈ F := by rw [h.foot]; simp [Value.ownBlock]
    exact ((hsub.set hgm _).set hgm _).set hgm _
end Go.Proofs.YtadlfffhddpajaaDoor

/- markDeedS, heldDeedS, markTask, heldTask: marks go on from a number, and stand where they were laid. Conditions: at most 2^20 of each, numbers to 2^40. -/
namespace Go.Proofs.YtadlfffhddpajaaDoor
open Go.ChangeShapes Go.WideShapes Go.ChangeAt Go.RowKit

def mkT (t : TaskD) : Nat := t.goal.length + mkDs t.deeds
def markT (k : Nat) (t : TaskD) : TaskD := ⟨t.start, marks k t.goal.length, markDs (k + t.goal.length) t.deeds⟩
end Go.Proofs.YtadlfffhddpajaaDoor
