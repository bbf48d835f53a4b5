/- Joined texts: Laid, DsField. -/
import Derived.Test.YtkimgdfcgfhibaaDoorSErrAs
import Derived.Test.YtkimgdfcgfhibaaDoorRows
import Derived.ChangeVars
import Derived.LaidLaws
import Derived.LaidHandle
import Derived.Test.YtkimgdfcgfhibaaDoorSDsPut
/- From the condition on errors.errorType to the variable's cell. -/
namespace Go.Proofs.YtkimgdfcgfhibaaDoor
set_option linter.unusedVariables false
set_option linter.unusedSimpArgs false
open Go.ChangeShapes Go.WideShapes Go.RowKit
theorem laid_et : Tryd.prog.globalNamed "errors.errorType" = some 0 := by kernel_rfl
theorem laid_rt : (Tryd.prog.cutTypes.find? (·.1 == "internal/reflectlite.rtype")).map (·.2) = some 119 := by kernel_rfl
theorem laid_one : ((List.range Tryd.prog.types.size).filter fun t => Tryd.prog.rowNamed t [101, 114, 114, 111, 114]) = [65] := by kernel_rfl
theorem errH_of_laid {W : World} (h : laidMetH Tryd.prog [("errors.errorType", Rows.laid_errors_errorType)] W) : ErrH W := by
  have h' : laidMet Tryd.prog [] W ∧ handlesMet Tryd.prog [("errors.errorType", Rows.laid_errors_errorType)] W := h
  obtain ⟨name, u, ty, e1, e2, e3, e4, e5⟩ := h'.2 _ (List.mem_singleton.2 rfl)
  have en : name = [101, 114, 114, 111, 114] := (Option.some.inj e1).symm
  subst en
  obtain rfl := Option.some.inj (laid_rt.symm.trans e2)
  have hm : ty ∈ (List.range Tryd.prog.types.size).filter fun t => Tryd.prog.rowNamed t [101, 114, 114, 111, 114] := List.mem_filter.2 ⟨List.mem_range.2 e3, e4⟩
  rw [laid_one] at hm
  obtain rfl := List.mem_singleton.1 hm
  have hh : typeHandle Tryd.prog 65 = .pointer (some ⟨1, 65, none⟩) := by kernel_rfl
  rw [hh] at e5
  simpa [ErrH] using World.var?_cell laid_et e5 0
end Go.Proofs.YtkimgdfcgfhibaaDoor

/- Stores into one field of a deed in a row of deeds; a store of what stands there already. -/
namespace Go.Proofs.YtkimgdfcgfhibaaDoor
set_option linter.unusedVariables false
set_option linter.unusedSimpArgs false
open Go.ChangeShapes Go.WideShapes Go.ChangeAt Go.RowKit

theorem setCell_id {w : World} {a : Addr} {v : Value} (h : w.cell? a = some v) : w.setCell a v = w := by
  have e : ∀ x, x = w.heap → ({ w with heap := x } : World) = w := fun x e => by subst e; rfl
  unfold World.setCell
  refine e _ ?_
  apply Array.ext_getElem?
  intro i
  rw [Array.getElem?_modify]
  split
  · next e =>
    subst e
    unfold World.cell? at h
    split at h
    · next c e f hb =>
      rw [hb]
      simp only [Option.map_some]
      congr 2
      split
      · rfl
      · next hs =>
        rw [if_neg hs] at h
        apply Array.ext_getElem?
        intro j
        rw [Array.getElem?_setIfInBounds]
        split
        · next e2 =>
          subst e2
          split
          · exact h.symm
          · next h3 => rw [Array.getElem?_eq_none (by omega)] at h; cases h
        · rfl
    · cases h
  · rfl
section
variable {w W : World} {L : List HRes}
theorem OwnDs.putF {ds : List DeedD} {F : List Nat} {cells : List Value} {Fs : List (List Nat)} {d d' : DeedD} {g n c i q : Nat} {u : Value} (h : OwnDs W 0 (.slice (some ⟨g, 0, none⟩) n c) ds F cells Fs) (hn : ds.length = n) (hF : F.Nodup) (hd : ds[i]? = some d) (hq : 1 ≤ q ∧ q ≤ 3)
    (h0 : d'.need = d.need) (h1 : .int .i64 d'.on = if q = 1 then u else .int .i64 d.on) (h2 : .int .i64 d'.off = if q = 2 then u else .int .i64 d.off) (h3 : .int .i64 d'.flip = if q = 3 then u else .int .i64 d.flip)
    (hwf : (Lit.int .i64 d'.on).wf = true ∧ (Lit.int .i64 d'.off).wf = true ∧ (Lit.int .i64 d'.flip).wf = true) :
    OwnDs (W.setCell ⟨g, i * 4 + q, none⟩ u) 0 (.slice (some ⟨g, 0, none⟩) n c) (ds.set i d') F (cells.set (i * 4 + q) u) Fs := by
  subst hn
  have hi : i < ds.length := (List.getElem?_eq_some_iff.1 hd).1
  have hrow := h.row
  have hcl : cells.length = ds.length * 4 := hrow.1
  have hft : F = g :: Fs.flatten := h.foot
  have hgn : g ∉ Fs.flatten := (List.nodup_cons.1 (hft ▸ hF)).1
  have ho := (hrow.stored (i * 4 + q) u).1
  have hon : Only [g] W (W.setCell ⟨g, i * 4 + q, none⟩ u) := (Only.refl [g] W).set (by simp) u
  generalize W.setCell ⟨g, i * 4 + q, none⟩ u = W2 at ho hon ⊢
  have hkeep : ∀ b, b ∈ Fs.flatten → W2.heap[b]? = W.heap[b]? := fun b hb => hon.block b (h.lt b (by rw [hft]; exact List.mem_cons_of_mem _ hb)).2 (fun hm => by
    rw [List.mem_singleton] at hm
    subst hm; exact hgn hb)
  refine ⟨by rw [List.length_set]; exact ho, by simpa using h.small, by simpa using h.flen, h.foot, fun j e Fj he hFj => ?_⟩
  by_cases hij : i = j
  · subst hij
    rw [List.getElem?_set_self hi] at he
    injection he with he
    subst he
    obtain ⟨nv, q0, q1, q2, q3, q4, q5, r⟩ := h.deed i d Fj hd hFj
    refine ⟨nv, ?_, ?_, ?_, ?_, by rw [h0]; exact q4.keep fun b hb => hkeep b (mem_flat hFj hb), by rw [h0]; exact q5, hwf⟩
    · rw [List.getElem?_set_ne (by omega)]; exact q0
    · rw [h1]
      by_cases e : q = 1
      · subst e; rw [List.getElem?_set_self (by omega)]; simp
      · rw [List.getElem?_set_ne (by omega), if_neg e]; exact q1
    · rw [h2]
      by_cases e : q = 2
      · subst e; rw [List.getElem?_set_self (by omega)]; simp
      · rw [List.getElem?_set_ne (by omega), if_neg e]; exact q2
    · rw [h3]
      by_cases e : q = 3
      · subst e; rw [List.getElem?_set_self (by omega)]; simp
      · rw [List.getElem?_set_ne (by omega), if_neg e]; exact q3
  · rw [List.getElem?_set_ne hij] at he
    obtain ⟨nv, q0, q1, q2, q3, q4, r⟩ := h.deed j e Fj he hFj
    refine ⟨nv, ?_, ?_, ?_, ?_, q4.keep fun b hb => hkeep b (mem_flat hFj hb), r⟩
    · rw [List.getElem?_set_ne (by omega)]; exact q0
    · rw [List.getElem?_set_ne (by omega)]; exact q1
    · rw [List.getElem?_set_ne (by omega)]; exact q2
    · rw [List.getElem?_set_ne (by omega)]; exact q3
theorem St.putF {ds : List DeedD} {d d' : DeedD} {g n c i q k : Nat} {u : Value} (h : St w W L) (hk : L[k]? = some (rDeeds (.slice (some ⟨g, 0, none⟩) n c) ds)) (hn : ds.length = n) (hd : ds[i]? = some d) (hq : 1 ≤ q ∧ q ≤ 3)
    (h0 : d'.need = d.need) (h1 : .int .i64 d'.on = if q = 1 then u else .int .i64 d.on) (h2 : .int .i64 d'.off = if q = 2 then u else .int .i64 d.off) (h3 : .int .i64 d'.flip = if q = 3 then u else .int .i64 d.flip)
    (hwf : (Lit.int .i64 d'.on).wf = true ∧ (Lit.int .i64 d'.off).wf = true ∧ (Lit.int .i64 d'.flip).wf = true) :
    St w (W.setCell ⟨g, i * 4 + q, none⟩ u) (L.set k (rDeeds (.slice (some ⟨g, 0, none⟩) n c) (ds.set i d'))) :=
  h.mod k hk fun F ⟨cells, Fs, h4, h5⟩ _ => ⟨F, ⟨_, Fs, h4.putF hn h5 hd hq h0 h1 h2 h3 hwf, h5⟩, fun b hb => .inl hb, (Only.refl F W).set (by rw [h4.foot]; simp [Value.ownBlock]) _⟩
theorem Sn.putF {M : Nat → Option HRes} {ds : List DeedD} {d d' : DeedD} {g n c i q k : Nat} {u : Value} (h : Sn w W M) (hk : M k = some (rDeeds (.slice (some ⟨g, 0, none⟩) n c) ds)) (hn : ds.length = n) (hd : ds[i]? = some d) (hq : 1 ≤ q ∧ q ≤ 3)
    (h0 : d'.need = d.need) (h1 : .int .i64 d'.on = if q = 1 then u else .int .i64 d.on) (h2 : .int .i64 d'.off = if q = 2 then u else .int .i64 d.off) (h3 : .int .i64 d'.flip = if q = 3 then u else .int .i64 d.flip)
    (hwf : (Lit.int .i64 d'.on).wf = true ∧ (Lit.int .i64 d'.off).wf = true ∧ (Lit.int .i64 d'.flip).wf = true) :
    Sn w (W.setCell ⟨g, i * 4 + q, none⟩ u) (fun j => if j = k then some (rDeeds (.slice (some ⟨g, 0, none⟩) n c) (ds.set i d')) else M j) :=
  h.mod k hk fun F ⟨cells, Fs, h4, h5⟩ _ => ⟨F, ⟨_, Fs, h4.putF hn h5 hd hq h0 h1 h2 h3 hwf, h5⟩, fun b hb => .inl hb, (Only.refl F W).set (by rw [h4.foot]; simp [Value.ownBlock]) _⟩
theorem Sn.deedAt {M : Nat → Option HRes} (h : Sn w W M) (i : Nat) {g n c : Nat} {ds : List DeedD} (hi : M i = some (rDeeds (.slice (some ⟨g, 0, none⟩) n c) ds)) {k : Nat} {d : DeedD} (hk : ds[k]? = some d) :
    W.cell? ⟨g, k * 4 + 3, none⟩ = some (.int .i64 d.flip) ∧ (∀ j, W.frozen? ⟨g, j, none⟩ = false) := by
  have s : St w W [rDeeds (.slice (some ⟨g, 0, none⟩) n c) ds] := h.to_st [i] (by simp) (by simp [hi])
  obtain ⟨g', c', d2, A, n', c2, hv, -, -, hd2, q0, q1, q2, q3, q4, q5, -⟩ := s.deedAt 0 rfl (List.getElem?_eq_some_iff.1 hk).1
  simp only [Value.slice.injEq, Option.some.injEq, Addr.mk.injEq, and_true, true_and] at hv
  obtain ⟨rfl, -, rfl⟩ := hv
  rw [hk] at hd2
  injection hd2 with hd2
  subst hd2
  exact ⟨q3, q4⟩
theorem St.putN {nv : Value} {ds : List DeedD} {d : DeedD} {xs : List Int} {g n c i : Nat} (h : St w W (rDeeds (.slice (some ⟨g, 0, none⟩) n c) ds :: rInts nv xs :: L)) (hn : ds.length = n) (hd : ds[i]? = some d) (hs : xs.length ≤ 1048576) :
    St w (W.setCell ⟨g, i * 4, none⟩ nv) (rDeeds (.slice (some ⟨g, 0, none⟩) n c) (ds.set i ⟨xs, d.on, d.off, d.flip⟩) :: L) := by
  have hi : i < ds.length := (List.getElem?_eq_some_iff.1 hd).1
  obtain ⟨g', c', d2, A, n', c2, hv, -, -, hd2, q0, q1, q2, q3, q4, q5, -⟩ := h.deedAt 0 rfl hi
  simp only [Value.slice.injEq, Option.some.injEq, Addr.mk.injEq, and_true, true_and] at hv
  obtain ⟨rfl, -, rfl⟩ := hv
  rw [hd] at hd2
  injection hd2 with hd2
  subst hd2
  have key := h.putD (i := i) (d := ⟨xs, d.on, d.off, d.flip⟩) hn (by omega) hs q5
  have e1 : (W.setCell ⟨g, i * 4, none⟩ nv).cell? ⟨g, i * 4 + 1, none⟩ = some (.int .i64 d.on) := (World.cell?_setCell_other _ _ _ _ (by simp)).trans q1
  have e2 : (W.setCell ⟨g, i * 4, none⟩ nv).cell? ⟨g, i * 4 + 2, none⟩ = some (.int .i64 d.off) := (World.cell?_setCell_other _ _ _ _ (by simp)).trans q2
  have e3 : (W.setCell ⟨g, i * 4, none⟩ nv).cell? ⟨g, i * 4 + 3, none⟩ = some (.int .i64 d.flip) := (World.cell?_setCell_other _ _ _ _ (by simp)).trans q3
  rw [setCell_id e1, setCell_id e2, setCell_id e3] at key
  exact key
end
end Go.Proofs.YtkimgdfcgfhibaaDoor
