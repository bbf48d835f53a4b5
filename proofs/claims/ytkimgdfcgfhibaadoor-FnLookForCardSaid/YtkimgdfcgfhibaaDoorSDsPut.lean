/- A deed of a row of the call's own is read, and put in place of another; things under other numbers. -/
import Derived.Test.YtkimgdfcgfhibaaDoorSDraw
namespace Go.Proofs.YtkimgdfcgfhibaaDoor
set_option linter.unusedVariables false
set_option linter.unusedSimpArgs false
open Go.ChangeShapes Go.WideShapes Go.ChangeAt Go.RowKit

/-- the same things under other numbers, or some of them -/
theorem Sn.re {w W : World} {M M' : Nat → Option HRes} (h : Sn w W M) (f : Nat → Nat) (e : ∀ i, M' i = none ∨ M' i = M (f i)) (inj : ∀ i j, M' i ≠ none → M' j ≠ none → f i = f j → i = j) : Sn w W M' := by
  obtain ⟨F, h1, h2⟩ := h.has
  refine ⟨h.below, fun i => F (f i), fun i R hR => ?_, fun i j hne hi hj => ?_⟩
  · rcases e i with h | h
    · rw [h] at hR; cases hR
    · exact h1 (f i) R (by rw [← h]; exact hR)
  · have ei : M (f i) ≠ none := by
      rcases e i with h | h
      · exact absurd h hi
      · rw [← h]; exact hi
    have ej : M (f j) ≠ none := by
      rcases e j with h | h
      · exact absurd h hj
      · rw [← h]; exact hj
    exact h2 (f i) (f j) (fun hf => hne (inj i j hi hj hf)) ei ej
section
variable {w W W' : World} {L : List HRes}
theorem St.deedAt (h : St w W L) (i : Nat) {v : Value} {ds : List DeedD} (hi : L[i]? = some (rDeeds v ds)) {k : Nat} (hk : k < ds.length) :
    ∃ g c d A n' c', v = .slice (some ⟨g, 0, none⟩) ds.length c ∧ ds.length ≤ c ∧ c ≤ maxLen ∧ ds[k]? = some d ∧ W.cell? ⟨g, k * 4, none⟩ = some (.slice A n' c') ∧ W.cell? ⟨g, k * 4 + 1, none⟩ = some (.int .i64 d.on) ∧ W.cell? ⟨g, k * 4 + 2, none⟩ = some (.int .i64 d.off) ∧ W.cell? ⟨g, k * 4 + 3, none⟩ = some (.int .i64 d.flip) ∧
      (∀ j, W.frozen? ⟨g, j, none⟩ = false) ∧ ((Lit.int .i64 d.on).wf = true ∧ (Lit.int .i64 d.off).wf = true ∧ (Lit.int .i64 d.flip).wf = true) ∧ n' = d.need.length := by
  obtain ⟨F, ⟨cells, Fs, h1, -⟩, -⟩ := h.get i hi
  obtain ⟨g, c, hv, hg, hcap, hmax⟩ := own_some h1.row (by omega)
  subst hv
  have hcl : cells.length = ds.length * 4 := h1.row.1
  obtain ⟨nv, q0, q1, q2, q3, q4, -, q5⟩ := h1.deed k _ _ (List.getElem?_eq_getElem hk) (List.getElem?_eq_getElem (show k < Fs.length by rw [h1.flen]; exact hk))
  obtain ⟨A, c', hn, -⟩ := q4.rd
  subst hn
  exact ⟨g, c, ds[k], A, _, c', rfl, hcap, hmax, List.getElem?_eq_getElem hk, (h1.row.cellAt (k * 4) (by omega)).trans q0, (h1.row.cellAt (k * 4 + 1) (by omega)).trans q1, (h1.row.cellAt (k * 4 + 2) (by omega)).trans q2, (h1.row.cellAt (k * 4 + 3) (by omega)).trans q3, fun j => h1.row.frozenAt j, q5, rfl⟩
theorem OwnDs.put {nv : Value} {ds : List DeedD} {F G : List Nat} {cells : List Value} {Fs : List (List Nat)} {d : DeedD} {g n c i : Nat} (h : OwnDs W 0 (.slice (some ⟨g, 0, none⟩) n c) ds F cells Fs) (hn : ds.length = n) (hF : F.Nodup) (ho : OwnI W 0 nv d.need G) (hdis : ∀ b ∈ F, b ∉ G)
    (hi : i < n) (hs : d.need.length ≤ 1048576) (hwf : (Lit.int .i64 d.on).wf = true ∧ (Lit.int .i64 d.off).wf = true ∧ (Lit.int .i64 d.flip).wf = true) :
    ∃ F', (∃ cells Fs, OwnDs ((((W.setCell ⟨g, i * 4, none⟩ nv).setCell ⟨g, i * 4 + 1, none⟩ (.int .i64 d.on)).setCell ⟨g, i * 4 + 2, none⟩ (.int .i64 d.off)).setCell ⟨g, i * 4 + 3, none⟩ (.int .i64 d.flip)) 0 (.slice (some ⟨g, 0, none⟩) n c) (ds.set i d) F' cells Fs ∧ F'.Nodup) ∧ (∀ b ∈ F', b ∈ F ∨ b ∈ G ∨ W.heap.size ≤ b) ∧
      Only F W ((((W.setCell ⟨g, i * 4, none⟩ nv).setCell ⟨g, i * 4 + 1, none⟩ (.int .i64 d.on)).setCell ⟨g, i * 4 + 2, none⟩ (.int .i64 d.off)).setCell ⟨g, i * 4 + 3, none⟩ (.int .i64 d.flip)) := by
  subst hn
  have hrow := h.row
  have hcl : cells.length = ds.length * 4 := hrow.1
  have hfl := h.flen
  have hft : F = g :: Fs.flatten := h.foot
  have hgF : g ∈ F := by rw [hft]; simp
  have hnd : (g :: Fs.flatten).Nodup := hft ▸ hF
  have hgn : g ∉ Fs.flatten := (List.nodup_cons.1 hnd).1
  have ho4 := (((hrow.stored (i * 4) nv).1.stored (i * 4 + 1) (.int .i64 d.on)).1.stored (i * 4 + 2) (.int .i64 d.off)).1.stored (i * 4 + 3) (.int .i64 d.flip)
  have hon : Only [g] W ((((W.setCell ⟨g, i * 4, none⟩ nv).setCell ⟨g, i * 4 + 1, none⟩ (.int .i64 d.on)).setCell ⟨g, i * 4 + 2, none⟩ (.int .i64 d.off)).setCell ⟨g, i * 4 + 3, none⟩ (.int .i64 d.flip)) :=
    ((((Only.refl [g] W).set (by simp) nv).set (by simp) (.int .i64 d.on)).set (by simp) (.int .i64 d.off)).set (by simp) (.int .i64 d.flip)
  generalize ((((W.setCell ⟨g, i * 4, none⟩ nv).setCell ⟨g, i * 4 + 1, none⟩ (.int .i64 d.on)).setCell ⟨g, i * 4 + 2, none⟩ (.int .i64 d.off)).setCell ⟨g, i * 4 + 3, none⟩ (.int .i64 d.flip)) = W2 at ho4 hon ⊢
  have hkeep : ∀ b, b ∈ Fs.flatten ∨ b ∈ G → W2.heap[b]? = W.heap[b]? := fun b hb => by
    refine hon.block b ?_ (fun hm => ?_)
    · rcases hb with hb | hb
      · exact (h.lt b (by rw [hft]; exact List.mem_cons_of_mem _ hb)).2
      · exact (ho.lt b hb).2
    · rw [List.mem_singleton] at hm
      subst hm
      rcases hb with hb | hb
      · exact hgn hb
      · exact hdis b hgF hb
  have hset : (Fs.set i G).length = Fs.length := by simp
  have hmem : ∀ b, b ∈ (Fs.set i G).flatten → b ∈ Fs.flatten ∨ b ∈ G := fun b hb => by
    obtain ⟨K, hK, hb⟩ := List.mem_flatten.1 hb
    rcases List.mem_or_eq_of_mem_set hK with hK | hK
    · exact .inl (List.mem_flatten.2 ⟨K, hK, hb⟩)
    · exact .inr (hK ▸ hb)
  refine ⟨g :: (Fs.set i G).flatten, ⟨_, Fs.set i G, ⟨by rw [List.length_set]; exact ho4.1, by simpa using h.small, by simpa using hfl, rfl, fun j e Fj he hFj => ?_⟩, ?_⟩, fun b hb => ?_, hon.sub fun x hx => by rw [List.mem_singleton] at hx; rw [hx]; exact hgF⟩
  · by_cases hij : i = j
    · subst hij
      rw [List.getElem?_set_self hi] at he
      injection he with he
      subst he
      rw [List.getElem?_set_self (by omega)] at hFj
      injection hFj with hFj
      subst hFj
      refine ⟨nv, ?_, ?_, ?_, ?_, ho.keep fun b hb => hkeep b (.inr hb), hs, hwf⟩
      · rw [List.getElem?_set_ne (by omega), List.getElem?_set_ne (by omega), List.getElem?_set_ne (by omega), List.getElem?_set_self (by omega)]
      · rw [List.getElem?_set_ne (by omega), List.getElem?_set_ne (by omega), List.getElem?_set_self (by simp; omega)]
      · rw [List.getElem?_set_ne (by omega), List.getElem?_set_self (by simp; omega)]
      · rw [List.getElem?_set_self (by simp; omega)]
    · rw [List.getElem?_set_ne hij] at he hFj
      obtain ⟨nv', q0, q1, q2, q3, q4, r⟩ := h.deed j e Fj he hFj
      refine ⟨nv', ?_, ?_, ?_, ?_, q4.keep fun b hb => hkeep b (.inl (mem_flat hFj hb)), r⟩
      · rw [List.getElem?_set_ne (by omega), List.getElem?_set_ne (by omega), List.getElem?_set_ne (by omega), List.getElem?_set_ne (by omega)]; exact q0
      · rw [List.getElem?_set_ne (by omega), List.getElem?_set_ne (by omega), List.getElem?_set_ne (by omega), List.getElem?_set_ne (by omega)]; exact q1
      · rw [List.getElem?_set_ne (by omega), List.getElem?_set_ne (by omega), List.getElem?_set_ne (by omega), List.getElem?_set_ne (by omega)]; exact q2
      · rw [List.getElem?_set_ne (by omega), List.getElem?_set_ne (by omega), List.getElem?_set_ne (by omega), List.getElem?_set_ne (by omega)]; exact q3
  · rw [List.nodup_cons]
    refine ⟨fun hb => ?_, flat_nodup (fun j K hK => ?_) fun j l K H hne hK hH => ?_⟩
    · rcases hmem g hb with hb | hb
      · exact hgn hb
      · exact hdis g hgF hb
    · by_cases hij : i = j
      · subst hij
        rw [List.getElem?_set_self (by omega)] at hK
        injection hK with hK
        rw [← hK]; exact ho.nodup
      · rw [List.getElem?_set_ne hij] at hK
        exact (List.pairwise_flatten.1 (List.nodup_cons.1 hnd).2).1 K (List.mem_of_getElem? hK)
    · have hap := fun (j l : Nat) (K H : List Nat) hne hK hH => flat_apart (i := j) (j := l) (F := K) (G := H) (List.nodup_cons.1 hnd).2 hK hH hne
      by_cases hij : i = j
      · subst hij
        rw [List.getElem?_set_self (by omega)] at hK
        injection hK with hK
        rw [List.getElem?_set_ne (by omega)] at hH
        rw [← hK]
        exact fun b hb hb' => hdis b (by rw [hft]; exact List.mem_cons_of_mem _ (mem_flat hH hb')) hb
      · rw [List.getElem?_set_ne hij] at hK
        by_cases hil : i = l
        · subst hil
          rw [List.getElem?_set_self (by omega)] at hH
          injection hH with hH
          rw [← hH]
          exact fun b hb hb' => hdis b (by rw [hft]; exact List.mem_cons_of_mem _ (mem_flat hK hb)) hb'
        · rw [List.getElem?_set_ne hil] at hH
          exact hap j l K H hne hK hH
  · rcases List.mem_cons.1 hb with hb | hb
    · exact .inl (hb ▸ hgF)
    · rcases hmem b hb with hb | hb
      · exact .inl (by rw [hft]; exact List.mem_cons_of_mem _ hb)
      · exact .inr (.inl hb)
theorem St.putD {nv : Value} {ds : List DeedD} {d : DeedD} {g n c i : Nat} (h : St w W (rDeeds (.slice (some ⟨g, 0, none⟩) n c) ds :: rInts nv d.need :: L)) (hn : ds.length = n) (hi : i < n) (hs : d.need.length ≤ 1048576)
    (hwf : (Lit.int .i64 d.on).wf = true ∧ (Lit.int .i64 d.off).wf = true ∧ (Lit.int .i64 d.flip).wf = true) :
    St w ((((W.setCell ⟨g, i * 4, none⟩ nv).setCell ⟨g, i * 4 + 1, none⟩ (.int .i64 d.on)).setCell ⟨g, i * 4 + 2, none⟩ (.int .i64 d.off)).setCell ⟨g, i * 4 + 3, none⟩ (.int .i64 d.flip)) (rDeeds (.slice (some ⟨g, 0, none⟩) n c) (ds.set i d) :: L) :=
  drop2_st ((Sn.of_st h).merge 0 1 (by decide) rfl rfl fun F G ⟨cs, Fs, h1, h2⟩ g1 hdis hlo => OwnDs.put h1 hn h2 g1 hdis hi hs hwf) rfl fun i => rfl
end
end Go.Proofs.YtkimgdfcgfhibaaDoor
