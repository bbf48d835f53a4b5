/- What a call hands back in new memory: rows of its own, each in a block that no other part shares. No program in sight but for type numbers. -/
import Derived.Test.YtgnmlpklojgpfaaDoorSTask
namespace Go.Proofs.YtgnmlpklojgpfaaDoor
open Go.ChangeShapes Go.WideShapes Go.ChangeAt Go.RowKit

/-- only the blocks of F have turned, of those that were there -/
structure Only (F : List Nat) (w w' : World) : Prop where
  os : w'.os = w.os
  tape : w'.tape = w.tape
  output : w'.output = w.output
  size : w.heap.size ≤ w'.heap.size
  block : ∀ k, k < w.heap.size → k ∉ F → w'.heap[k]? = w.heap[k]?
theorem Only.refl (F : List Nat) (w : World) : Only F w w := ⟨rfl, rfl, rfl, Nat.le_refl _, fun _ _ _ => rfl⟩
theorem Only.trans {F : List Nat} {a b c : World} (h : Only F a b) (k : Only F b c) : Only F a c :=
  ⟨k.os.trans h.os, k.tape.trans h.tape, k.output.trans h.output, Nat.le_trans h.size k.size, fun i hi hn => (k.block i (Nat.lt_of_lt_of_le hi h.size) hn).trans (h.block i hi hn)⟩
theorem Only.of_below {F : List Nat} {a b : World} (h : Below a.heap.size a b) : Only F a b := ⟨h.os, h.tape, h.output, h.size, fun i hi _ => h.block i hi⟩
theorem Only.below {F : List Nat} {a b : World} {B : Nat} (h : Only F a b) (hF : ∀ x ∈ F, B ≤ x) (hB : B ≤ a.heap.size) : Below B a b := ⟨h.os, h.tape, h.output, h.size, fun i hi => h.block i (by omega) fun hx => by have := hF i hx; omega⟩
theorem Only.set {F : List Nat} {a w : World} (h : Only F a w) {p : Addr} (hp : p.block ∈ F) (u : Value) : Only F a (w.setCell p u) :=
  h.trans ⟨rfl, rfl, rfl, by simp [World.setCell], fun k _ hn => Below.heap_setCell _ _ _ _ (by rintro rfl; exact hn hp)⟩
theorem Only.alloc {F : List Nat} {a w : World} (h : Only F a w) (o : Obj) : Only F a (w.alloc o) := h.trans (Only.of_below ((Below.refl _ _).alloc (Nat.le_refl _) _))
/-- a row of numbers of its own: F its block, if it has one -/
structure OwnI (w : World) (lo : Nat) (v : Value) (xs : List Int) (F : List Nat) : Prop where
  row : w.ownsRow lo 3 1 v xs.length (ints xs)
  wf : ∀ x ∈ xs, (Lit.int .i64 x).wf = true
  foot : F = v.ownBlock.toList
theorem ownsRow_heap {w w' : World} {base : Nat} {e : TypeId} {size n : Nat} {v : Value} {xs : List Value} (h : w.ownsRow base e size v n xs) (hk : ∀ b, v.ownBlock = some b → w'.heap[b]? = w.heap[b]?) : w'.ownsRow base e size v n xs := by
  refine ⟨h.1, ?_⟩
  rcases h.2 with h | ⟨g, cap, cur, rfl, hg, hh, r⟩
  · exact .inl h
  · exact .inr ⟨g, cap, cur, rfl, hg, (hk g rfl).trans hh, r⟩
section
variable {w w' : World} {lo : Nat} {v : Value} {xs : List Int} {F : List Nat}
theorem OwnI.keep (h : OwnI w lo v xs F) (hk : ∀ b ∈ F, w'.heap[b]? = w.heap[b]?) : OwnI w' lo v xs F :=
  ⟨ownsRow_heap h.row fun b hb => hk b (by rw [h.foot, hb]; simp), h.wf, h.foot⟩
theorem OwnI.lt (h : OwnI w lo v xs F) : ∀ b ∈ F, lo ≤ b ∧ b < w.heap.size := fun b hb => h.row.lt b (by rw [h.foot] at hb; simpa using hb)
theorem OwnI.nodup (h : OwnI w lo v xs F) : F.Nodup := by rw [h.foot]; cases v.ownBlock <;> simp
theorem OwnI.mono {lo' : Nat} (h : OwnI w lo v xs F) (hl : lo' ≤ lo) : OwnI w lo' v xs F := ⟨own_mono h.row hl, h.wf, h.foot⟩
theorem OwnI.below (h : OwnI w lo v xs F) (hb : Below w.heap.size w w') : OwnI w' lo v xs F := h.keep fun b hx => hb.block b (h.lt b hx).2
end

/-- the deeds' cells in a row: each need a row of its own -/
def OwnD (w : World) (lo : Nat) (cells : List Value) (i : Nat) (d : DeedD) (F : List Nat) : Prop :=
  ∃ nv, cells[i * 4]? = some nv ∧ cells[i * 4 + 1]? = some (.int .i64 d.on) ∧ cells[i * 4 + 2]? = some (.int .i64 d.off) ∧ cells[i * 4 + 3]? = some (.int .i64 d.flip) ∧ OwnI w lo nv d.need F ∧ d.need.length ≤ 1048576 ∧
    (Lit.int .i64 d.on).wf = true ∧ (Lit.int .i64 d.off).wf = true ∧ (Lit.int .i64 d.flip).wf = true
section
variable {w w' : World} {lo : Nat} {v : Value} {ds : List DeedD} {F : List Nat} {cells : List Value} {Fs : List (List Nat)}
theorem OwnD.keep {i : Nat} {d : DeedD} {Fi : List Nat} (h : OwnD w lo cells i d Fi) (hk : ∀ b ∈ Fi, w'.heap[b]? = w.heap[b]?) : OwnD w' lo cells i d Fi := by
  obtain ⟨nv, h0, h1, h2, h3, h4, r⟩ := h
  exact ⟨nv, h0, h1, h2, h3, h4.keep hk, r⟩
theorem mem_flat {Fs : List (List Nat)} {i : Nat} {Fi : List Nat} (h : Fs[i]? = some Fi) {b : Nat} (hb : b ∈ Fi) : b ∈ Fs.flatten := List.mem_flatten.2 ⟨Fi, List.mem_of_getElem? h, hb⟩
end

section
variable {w w' : World} {lo : Nat} {v : Value} {t : TaskD} {F : List Nat}
end
end Go.Proofs.YtgnmlpklojgpfaaDoor
