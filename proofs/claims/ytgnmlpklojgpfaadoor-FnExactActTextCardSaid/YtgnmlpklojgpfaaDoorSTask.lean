/- Tasks in memory, and TaskValid of the program and of the reference. -/
import Derived.Test.YtgnmlpklojgpfaaDoorSDeed
namespace Go.Proofs.YtgnmlpklojgpfaaDoor
open Go.ChangeShapes Go.WideShapes Go.ChangeAt Go.RowKit

/-- in w, below block B, the four cells at (b, o) read as this deed -/
def RdDAtM (M : Nat) (w : World) (B b o : Nat) (d : DeedD) : Prop :=
  ∃ A n c, w.cell? ⟨b, o, none⟩ = some (.slice A n c) ∧ w.cell? ⟨b, o + 1, none⟩ = some (.int .i64 d.on) ∧ w.cell? ⟨b, o + 2, none⟩ = some (.int .i64 d.off) ∧ w.cell? ⟨b, o + 3, none⟩ = some (.int .i64 d.flip) ∧
    RdI .i64 w B A n c d.need ∧ n ≤ M ∧ (Lit.int .i64 d.on).wf = true ∧ (Lit.int .i64 d.off).wf = true ∧ (Lit.int .i64 d.flip).wf = true
/-- in w, below block B, the slice at A with n deeds reads as these -/
structure RdDsM (M : Nat) (w : World) (B : Nat) (A : Option Addr) (n c : Nat) (ds : List DeedD) : Prop where
  len : ds.length = n
  cap : n ≤ c
  capMax : c ≤ maxLen
  small : n ≤ M
  at_ : 0 < n → ∃ b off, A = some ⟨b, off, none⟩ ∧ b < B ∧ ∀ i d, ds[i]? = some d → RdDAtM M w B b (off + i * 4) d
/-- in w, below block B, v reads as this task -/
def RdTM (M : Nat) (w : World) (B : Nat) (v : Value) (t : TaskD) : Prop :=
  ∃ A n c A' n' c', v = .agg #[.int .i64 t.start, .slice A n c, .slice A' n' c'] ∧ RdI .i64 w B A n c t.goal ∧ n ≤ M ∧ RdDsM M w B A' n' c' t.deeds ∧ (Lit.int .i64 t.start).wf = true

abbrev RdDAt := RdDAtM 1048576
abbrev RdDs := RdDsM 1048576
abbrev RdT := RdTM 1048576

section
variable {M : Nat} {w w' : World} {B B' : Nat}
theorem RdDAtM.keep {b o : Nat} {d : DeedD} (h : RdDAtM M w B b o d) (hb : b < B) (hk : ∀ b o, b < B → w'.cell? ⟨b, o, none⟩ = w.cell? ⟨b, o, none⟩) : RdDAtM M w' B b o d := by
  obtain ⟨A, n, c, h0, h1, h2, h3, h4, r⟩ := h
  exact ⟨A, n, c, (hk _ _ hb).trans h0, (hk _ _ hb).trans h1, (hk _ _ hb).trans h2, (hk _ _ hb).trans h3, h4.keep hk, r⟩
theorem RdDAtM.more {b o : Nat} {d : DeedD} (h : RdDAtM M w B b o d) (hB : B ≤ B') : RdDAtM M w B' b o d := by
  obtain ⟨A, n, c, h0, h1, h2, h3, h4, r⟩ := h
  exact ⟨A, n, c, h0, h1, h2, h3, h4.more hB, r⟩
theorem RdDsM.keep {A : Option Addr} {n c : Nat} {ds : List DeedD} (h : RdDsM M w B A n c ds) (hk : ∀ b o, b < B → w'.cell? ⟨b, o, none⟩ = w.cell? ⟨b, o, none⟩) : RdDsM M w' B A n c ds :=
  ⟨h.len, h.cap, h.capMax, h.small, fun hn => by
    obtain ⟨b, off, e, hb, hc⟩ := h.at_ hn
    exact ⟨b, off, e, hb, fun i d hd => (hc i d hd).keep hb hk⟩⟩
theorem RdDsM.more {A : Option Addr} {n c : Nat} {ds : List DeedD} (h : RdDsM M w B A n c ds) (hB : B ≤ B') : RdDsM M w B' A n c ds :=
  ⟨h.len, h.cap, h.capMax, h.small, fun hn => by
    obtain ⟨b, off, e, hb, hc⟩ := h.at_ hn
    exact ⟨b, off, e, by omega, fun i d hd => (hc i d hd).more hB⟩⟩
theorem RdDsM.below {A : Option Addr} {n c : Nat} {ds : List DeedD} (h : RdDsM M w B A n c ds) (hb : Below B w w') : RdDsM M w' B A n c ds := h.keep (bcells hb)
theorem RdDsM.get {A : Option Addr} {n c : Nat} {ds : List DeedD} (h : RdDsM M w B A n c ds) {i : Nat} (hi : i < n) : ∃ b off d, A = some ⟨b, off, none⟩ ∧ b < B ∧ ds[i]? = some d ∧ RdDAtM M w B b (off + i * 4) d := by
  obtain ⟨b, off, e, hb, hc⟩ := h.at_ (by omega)
  have hl : i < ds.length := by rw [h.len]; exact hi
  exact ⟨b, off, ds[i], e, hb, List.getElem?_eq_getElem hl, hc i _ (List.getElem?_eq_getElem hl)⟩
theorem RdTM.keep {v : Value} {t : TaskD} (h : RdTM M w B v t) (hk : ∀ b o, b < B → w'.cell? ⟨b, o, none⟩ = w.cell? ⟨b, o, none⟩) : RdTM M w' B v t := by
  obtain ⟨A, n, c, A', n', c', e, h1, h2, h3, h4⟩ := h
  exact ⟨A, n, c, A', n', c', e, h1.keep hk, h2, h3.keep hk, h4⟩
theorem RdTM.more {v : Value} {t : TaskD} (h : RdTM M w B v t) (hB : B ≤ B') : RdTM M w B' v t := by
  obtain ⟨A, n, c, A', n', c', e, h1, h2, h3, h4⟩ := h
  exact ⟨A, n, c, A', n', c', e, h1.more hB, h2, h3.more hB, h4⟩
theorem RdTM.below {v : Value} {t : TaskD} (h : RdTM M w B v t) (hb : Below B w w') : RdTM M w' B v t := h.keep (bcells hb)
/-- over a step that leaves all that was there, up to the new top -/
theorem RdTM.up {v : Value} {t : TaskD} (h : RdTM M w w.heap.size v t) (hb : Below w.heap.size w w') : RdTM M w' w'.heap.size v t := (h.below hb).more hb.size
theorem RdI.up {k : IntKind} {A : Option Addr} {n c : Nat} {xs : List Int} (h : RdI k w w.heap.size A n c xs) (hb : Below w.heap.size w w') : RdI k w' w'.heap.size A n c xs := (h.below hb).more hb.size
theorem RdDsM.up {A : Option Addr} {n c : Nat} {ds : List DeedD} (h : RdDsM M w w.heap.size A n c ds) (hb : Below w.heap.size w w') : RdDsM M w' w'.heap.size A n c ds := (h.below hb).more hb.size
end

end Go.Proofs.YtgnmlpklojgpfaaDoor
