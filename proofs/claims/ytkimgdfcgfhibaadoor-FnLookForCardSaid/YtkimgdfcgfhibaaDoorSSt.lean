/- Things in memory that do not share blocks, as a list: St w W L: since w, nothing old has turned, and in W the list L of things of the call's own stands, each on blocks of its own. No program in sight but for type numbers. -/
import Derived.Test.YtkimgdfcgfhibaaDoorSOwn
import Derived.Test.YtkimgdfcgfhibaaDoorSSz
namespace Go.Proofs.YtkimgdfcgfhibaaDoor
set_option linter.unusedVariables false
set_option linter.unusedSimpArgs false
open Go.ChangeShapes Go.WideShapes Go.ChangeAt Go.RowKit

/-- a thing in memory: what it says of a world and of its blocks; it stays where these stay -/
structure HRes where
  at_ : World → List Nat → Prop
  keep : ∀ (w w' : World) (F : List Nat), at_ w F → (∀ b ∈ F, w'.heap[b]? = w.heap[b]?) → at_ w' F
  lt : ∀ (w : World) (F : List Nat), at_ w F → ∀ b ∈ F, b < w.heap.size
  nd : ∀ (w : World) (F : List Nat), at_ w F → F.Nodup

structure St (w W : World) (L : List HRes) : Prop where
  below : Below w.heap.size w W
  has : ∃ Fs : List (List Nat), Fs.length = L.length ∧ (∀ (i : Nat) R F, L[i]? = some R → Fs[i]? = some F → R.at_ W F ∧ ∀ b ∈ F, w.heap.size ≤ b) ∧ Fs.flatten.Nodup

theorem flat_apart {Fs : List (List Nat)} (h : Fs.flatten.Nodup) {i j : Nat} {F G : List Nat} (hi : Fs[i]? = some F) (hj : Fs[j]? = some G) (hne : i ≠ j) : ∀ b ∈ F, b ∉ G := by
  intro b hb hg
  have hi2 := (List.getElem?_eq_some_iff.1 hi).1
  have hj2 := (List.getElem?_eq_some_iff.1 hj).1
  have hp := List.pairwise_iff_getElem.1 (List.pairwise_flatten.1 h).2
  rcases Nat.lt_or_gt_of_ne hne with h1 | h1
  · exact hp i j hi2 hj2 h1 b (by rw [(List.getElem?_eq_some_iff.1 hi).2]; exact hb) b (by rw [(List.getElem?_eq_some_iff.1 hj).2]; exact hg) rfl
  · exact hp j i hj2 hi2 h1 b (by rw [(List.getElem?_eq_some_iff.1 hj).2]; exact hg) b (by rw [(List.getElem?_eq_some_iff.1 hi).2]; exact hb) rfl
theorem flat_nodup {Fs : List (List Nat)} (h1 : ∀ (i : Nat) F, Fs[i]? = some F → F.Nodup) (h2 : ∀ (i j : Nat) F G, i ≠ j → Fs[i]? = some F → Fs[j]? = some G → ∀ b ∈ F, b ∉ G) : Fs.flatten.Nodup := by
  refine List.pairwise_flatten.2 ⟨fun F hF => ?_, List.pairwise_iff_getElem.2 fun i j hi hj hlt a ha b hb e => ?_⟩
  · obtain ⟨i, hi⟩ := List.mem_iff_getElem?.1 hF
    exact h1 i F hi
  · subst e
    exact h2 i j _ _ (by omega) (List.getElem?_eq_getElem hi) (List.getElem?_eq_getElem hj) a ha hb

section
variable {w W W' : World} {L L' : List HRes}
theorem St.refl (w : World) : St w w [] := ⟨Below.refl _ _, [], rfl, by simp, by simp⟩
theorem St.size (h : St w W L) : w.heap.size ≤ W.heap.size := h.below.size
theorem St.get (h : St w W L) (i : Nat) {R : HRes} (hi : L[i]? = some R) : ∃ F, R.at_ W F ∧ ∀ b ∈ F, w.heap.size ≤ b := by
  obtain ⟨Fs, hl, ha, -⟩ := h.has
  have h1 := (List.getElem?_eq_some_iff.1 hi).1
  exact ⟨_, ha i R _ hi (List.getElem?_eq_getElem (show i < Fs.length by omega))⟩
/-- one more step of a callee's kind -/
theorem St.call (h : St w W L) (k : St W W' L') : St w W' (L ++ L') := by
  obtain ⟨Fs, hl, ha, hn⟩ := h.has
  obtain ⟨Gs, kl, ka, kn⟩ := k.has
  have hold : ∀ (i : Nat) F, Fs[i]? = some F → ∃ R, L[i]? = some R ∧ R.at_ W F ∧ ∀ b ∈ F, w.heap.size ≤ b := fun i F hF => by
    have hi : i < L.length := by rw [← hl]; exact (List.getElem?_eq_some_iff.1 hF).1
    exact ⟨_, List.getElem?_eq_getElem hi, ha i _ F (List.getElem?_eq_getElem hi) hF⟩
  have hnew : ∀ (i : Nat) F, Gs[i]? = some F → ∃ R, L'[i]? = some R ∧ R.at_ W' F ∧ ∀ b ∈ F, W.heap.size ≤ b := fun i F hF => by
    have hi : i < L'.length := by rw [← kl]; exact (List.getElem?_eq_some_iff.1 hF).1
    exact ⟨_, List.getElem?_eq_getElem hi, ka i _ F (List.getElem?_eq_getElem hi) hF⟩
  refine ⟨h.below.trans (k.below.mono h.size), Fs ++ Gs, by simp [hl, kl], fun i R F hR hF => ?_, ?_⟩
  · rcases Nat.lt_or_ge i L.length with hi | hi
    · rw [List.getElem?_append_left hi] at hR
      rw [List.getElem?_append_left (by omega)] at hF
      obtain ⟨h1, h2⟩ := ha i R F hR hF
      exact ⟨R.keep W W' F h1 fun b hb => k.below.block b (R.lt W F h1 b hb), h2⟩
    · rw [List.getElem?_append_right hi] at hR
      rw [List.getElem?_append_right (by omega), hl] at hF
      obtain ⟨h1, h2⟩ := ka _ R F hR hF
      exact ⟨h1, fun b hb => Nat.le_trans h.size (h2 b hb)⟩
  · rw [List.flatten_append, List.nodup_append]
    refine ⟨hn, kn, fun a hA b hB e => ?_⟩
    subst e
    obtain ⟨F, hF, hA⟩ := List.mem_flatten.1 hA
    obtain ⟨G, hG, hB⟩ := List.mem_flatten.1 hB
    obtain ⟨i, hi⟩ := List.mem_iff_getElem?.1 hF
    obtain ⟨j, hj⟩ := List.mem_iff_getElem?.1 hG
    obtain ⟨R, -, h1, -⟩ := hold i F hi
    obtain ⟨R', -, -, h2⟩ := hnew j G hj
    have := R.lt W F h1 a hA
    have := h2 a hB
    omega
theorem St.quiet (h : St w W L) (k : Below W.heap.size W W') : St w W' L := by
  have := h.call (L' := []) ⟨k, [], rfl, by simp, by simp⟩
  simpa using this
theorem St.same (h : St w W L) (e : W = W') : St w W' L := e ▸ h
theorem St.of_below (k : Below w.heap.size w W) : St w W [] := (St.refl w).quiet k
theorem St.drew (h : St w W L) : St w W.drew L := h.quiet ((Below.refl _ _).drew)
theorem St.drewN (h : St w W L) (n : Nat) : St w (W.drewN n) L := h.quiet (below_drewN (Below.refl _ _) n)
/-- one thing turns, on its own blocks or on new ones -/
theorem St.mod (h : St w W L) (i : Nat) {R R' : HRes} (hi : L[i]? = some R) (k : ∀ F, R.at_ W F → (∀ b ∈ F, w.heap.size ≤ b) → ∃ F', R'.at_ W' F' ∧ (∀ b ∈ F', b ∈ F ∨ W.heap.size ≤ b) ∧ Only F W W') : St w W' (L.set i R') := by
  obtain ⟨Fs, hl, ha, hn⟩ := h.has
  have hiL := (List.getElem?_eq_some_iff.1 hi).1
  have hiF : Fs[i]? = some (Fs[i]'(by omega)) := List.getElem?_eq_getElem _
  generalize Fs[i]'(by omega) = F at hiF
  obtain ⟨h1, h2⟩ := ha i R F hi hiF
  obtain ⟨F', k1, k2, k3⟩ := k F h1 h2
  have hw := h.size
  have hat : ∀ (j : Nat) G, j ≠ i → Fs[j]? = some G → ∃ S, L[j]? = some S ∧ S.at_ W G ∧ (∀ b ∈ G, w.heap.size ≤ b) ∧ (∀ b ∈ G, b ∉ F) ∧ ∀ b ∈ G, b < W.heap.size := fun j G hj hG => by
    have hjl : j < L.length := by rw [← hl]; exact (List.getElem?_eq_some_iff.1 hG).1
    obtain ⟨q1, q2⟩ := ha j _ G (List.getElem?_eq_getElem hjl) hG
    exact ⟨_, List.getElem?_eq_getElem hjl, q1, q2, flat_apart hn hG hiF hj, HRes.lt _ W G q1⟩
  refine ⟨h.below.trans (k3.below h2 hw), Fs.set i F', by simp [hl], fun j S G hS hG => ?_, flat_nodup (fun j G hG => ?_) (fun j l G H hne hG hH => ?_)⟩
  · by_cases hj : j = i
    · subst hj
      rw [List.getElem?_set_self (by omega)] at hS hG
      injection hS with hS
      injection hG with hG
      subst hS hG
      exact ⟨k1, fun b hb => (k2 b hb).elim (h2 b) (fun hx => by omega)⟩
    · rw [List.getElem?_set_ne (by omega)] at hS hG
      obtain ⟨S', e, q1, q2, q3, q4⟩ := hat j G hj hG
      rw [hS] at e
      injection e with e
      subst e
      exact ⟨S.keep W W' G q1 fun b hb => k3.block b (q4 b hb) (q3 b hb), q2⟩
  · by_cases hj : j = i
    · subst hj
      rw [List.getElem?_set_self (by omega)] at hG
      injection hG with hG
      subst hG
      exact R'.nd W' _ k1
    · rw [List.getElem?_set_ne (by omega)] at hG
      obtain ⟨S', e, q1, -⟩ := hat j G hj hG
      exact S'.nd W _ q1
  · have key : ∀ (j : Nat) G, j ≠ i → (Fs.set i F')[j]? = some G → ∀ b ∈ G, b ∉ F' := fun j G hj hG b hb hf => by
      rw [List.getElem?_set_ne (by omega)] at hG
      obtain ⟨S', e, q1, q2, q3, q4⟩ := hat j G hj hG
      rcases k2 b hf with hx | hx
      · exact q3 b hb hx
      · have := q4 b hb; omega
    have hself : ∀ G, (Fs.set i F')[i]? = some G → G = F' := fun G hG => by
      rw [List.getElem?_set_self (by omega)] at hG
      injection hG with hG; exact hG.symm
    by_cases hj : j = i
    · subst hj
      have := hself G hG
      subst this
      intro b hb hb'
      exact key l H (by omega) hH b hb' hb
    · by_cases hl' : l = i
      · subst hl'
        have := hself H hH
        subst this
        exact key j G hj hG
      · rw [List.getElem?_set_ne (by omega)] at hG hH
        exact flat_apart hn hG hH hne
/-- some of the things, in another order -/
theorem St.pick (h : St w W L) (ix : List Nat) (hn : ix.Nodup) (hl' : (ix.all fun i => decide (i < L.length)) = true) {L' : List HRes} (e : ix.filterMap (fun i => L[i]?) = L') : St w W L' := by
  have hl : ∀ i ∈ ix, i < L.length := by simpa using hl'
  subst e
  obtain ⟨Fs, kl, ha, hnd⟩ := h.has
  have hmap : ∀ (T : Type) (l : List T) (hh : l.length = L.length), ix.filterMap (fun i => l[i]?) = ix.attach.map (fun i => l[i.1]'(by have := hl i.1 i.2; omega)) := fun T l hh => by
    conv => lhs; rw [← List.attach_map_subtype_val ix]
    rw [List.filterMap_map]
    rw [← List.filterMap_eq_map]
    congr 1
    funext i
    simp only [Function.comp]
    exact List.getElem?_eq_getElem (by have := hl i.1 i.2; omega)
  have hL := hmap _ L rfl
  have hF := hmap _ Fs kl
  have hsrc : ∀ (T : Type) (l : List T), l.length = L.length → ∀ (i : Nat) R, (ix.filterMap (fun i => l[i]?))[i]? = some R → ∃ j, ix[i]? = some j ∧ l[j]? = some R := fun T l hh i R hR => by
    rw [hmap T l hh, List.getElem?_map] at hR
    obtain ⟨j, hj, hR⟩ := Option.map_eq_some_iff.1 hR
    have hj' : ix[i]? = some j.1 := by
      have := congrArg (Option.map Subtype.val) hj
      rw [← List.getElem?_map, List.attach_map_subtype_val] at this
      exact this
    exact ⟨j.1, hj', by rw [← hR]; exact List.getElem?_eq_getElem _⟩
  refine ⟨h.below, ix.filterMap (fun i => Fs[i]?), by rw [hL, hF]; simp, fun i R F hR hF => ?_, flat_nodup (fun i F hF => ?_) (fun i j F G hne hF hG => ?_)⟩
  · obtain ⟨j, q1, q2⟩ := hsrc _ L rfl i R hR
    obtain ⟨j', q3, q4⟩ := hsrc _ Fs kl i F hF
    rw [q1] at q3
    injection q3 with q3
    subst q3
    exact ha j R F q2 q4
  · obtain ⟨j', q3, q4⟩ := hsrc _ Fs kl i F hF
    have hj : j' < L.length := by rw [← kl]; exact (List.getElem?_eq_some_iff.1 q4).1
    exact HRes.nd _ W F (ha j' _ F (List.getElem?_eq_getElem hj) q4).1
  · obtain ⟨j1, q3, q4⟩ := hsrc _ Fs kl i F hF
    obtain ⟨j2, q5, q6⟩ := hsrc _ Fs kl j G hG
    refine flat_apart hnd q4 q6 fun e => hne ?_
    subst e
    obtain ⟨a1, a2⟩ := List.getElem?_eq_some_iff.1 q3
    obtain ⟨b1, b2⟩ := List.getElem?_eq_some_iff.1 q5
    exact (List.getElem_inj (hn)).1 (a2.trans b2.symm)
/-- the first two things taken together as one -/
theorem St.join {R₁ R₂ : HRes} (h : St w W (R₁ :: R₂ :: L)) {R : HRes} (k : ∀ F G, R₁.at_ W F → R₂.at_ W G → (F ++ G).Nodup → (∀ b ∈ F ++ G, w.heap.size ≤ b) → R.at_ W (F ++ G)) : St w W (R :: L) := by
  obtain ⟨Fs, kl, ha, hnd⟩ := h.has
  match Fs, kl, ha, hnd with
  | F :: G :: Fs, kl, ha, hnd =>
    obtain ⟨a1, a2⟩ := ha 0 _ F rfl rfl
    obtain ⟨b1, b2⟩ := ha 1 _ G rfl rfl
    have hnd' : ((F ++ G) ++ Fs.flatten).Nodup := by simpa using hnd
    have hlo : ∀ b ∈ F ++ G, w.heap.size ≤ b := fun b hb => (List.mem_append.1 hb).elim (a2 b) (b2 b)
    refine ⟨h.below, (F ++ G) :: Fs, by simpa using kl, fun i R' F' hR hF => ?_, by simpa using hnd⟩
    match i with
    | 0 =>
      injection hR with hR
      injection hF with hF
      subst hR hF
      exact ⟨k F G a1 b1 (List.nodup_append.1 hnd').1 hlo, hlo⟩
    | i + 1 => exact ha (i + 2) R' F' hR hF
/-- the first thing seen as another -/
theorem St.see {R₁ : HRes} (h : St w W (R₁ :: L)) {R : HRes} (k : ∀ F, R₁.at_ W F → (∀ b ∈ F, w.heap.size ≤ b) → R.at_ W F) : St w W (R :: L) := by
  obtain ⟨Fs, kl, ha, hnd⟩ := h.has
  refine ⟨h.below, Fs, by simpa using kl, fun i R' F' hR hF => ?_, hnd⟩
  match i with
  | 0 =>
    injection hR with hR
    subst hR
    obtain ⟨a1, a2⟩ := ha 0 _ F' rfl hF
    exact ⟨k F' a1 a2, a2⟩
  | i + 1 => exact ha (i + 1) R' F' hR hF
end

/-! ### the things -/
/-- a block known whole -/
def rBlk (g : Nat) (t : TypeId) (cs : Array Value) : HRes where
  at_ w F := Blk w g t cs ∧ F = [g]
  keep w w' F h hk := ⟨(hk g (by rw [h.2]; simp)).trans h.1, h.2⟩
  lt w F h b hb := by obtain ⟨h1, rfl⟩ := h; simp at hb; subst hb; exact h1.lt
  nd w F h := by obtain ⟨h1, rfl⟩ := h; simp
/-- a row that grows by append -/
def rRow (e : TypeId) (size : Nat) (v : Value) (n : Nat) (cells : List Value) : HRes where
  at_ w F := w.ownsRow 0 e size v n cells ∧ F = v.ownBlock.toList
  keep w w' F h hk := ⟨ownsRow_heap h.1 fun b hb => hk b (by rw [h.2, hb]; simp), h.2⟩
  lt w F h b hb := by obtain ⟨h1, rfl⟩ := h; exact (h1.lt b (by simpa using hb)).2
  nd w F h := by obtain ⟨h1, rfl⟩ := h; cases v.ownBlock <;> simp
/-- a row of numbers -/
def rInts (v : Value) (xs : List Int) : HRes where
  at_ w F := OwnI w 0 v xs F
  keep w w' F h hk := h.keep hk
  lt w F h b hb := (h.lt b hb).2
  nd w F h := h.nodup
/-- a row of deeds -/
def rDeeds (v : Value) (ds : List DeedD) : HRes where
  at_ w F := ∃ cells Fs, OwnDs w 0 v ds F cells Fs ∧ F.Nodup
  keep w w' F h hk := by obtain ⟨c, Fs, h1, h2⟩ := h; exact ⟨c, Fs, h1.keep hk, h2⟩
  lt w F h b hb := by obtain ⟨c, Fs, h1, h2⟩ := h; exact (h1.lt b hb).2
  nd w F h := by obtain ⟨c, Fs, h1, h2⟩ := h; exact h2
/-- a task -/
def rTask (v : Value) (t : TaskD) : HRes where
  at_ w F := OwnT w 0 v t F ∧ F.Nodup
  keep w w' F h hk := ⟨h.1.keep hk, h.2⟩
  lt w F h b hb := (h.1.lt b hb).2
  nd w F h := h.2
/-- several things as one -/
def rAll (Rs : List HRes) : HRes where
  at_ w F := ∃ Fs : List (List Nat), Fs.length = Rs.length ∧ (∀ (i : Nat) R G, Rs[i]? = some R → Fs[i]? = some G → R.at_ w G) ∧ Fs.flatten.Nodup ∧ F = Fs.flatten
  keep w w' F h hk := by
    obtain ⟨Fs, h1, h2, h3, rfl⟩ := h
    exact ⟨Fs, h1, fun i R G hR hG => R.keep w w' G (h2 i R G hR hG) fun b hb => hk b (mem_flat hG hb), h3, rfl⟩
  lt w F h b hb := by
    obtain ⟨Fs, h1, h2, h3, rfl⟩ := h
    obtain ⟨G, hG, hb⟩ := List.mem_flatten.1 hb
    obtain ⟨i, hi⟩ := List.mem_iff_getElem?.1 hG
    have hl : i < Rs.length := by rw [← h1]; exact (List.getElem?_eq_some_iff.1 hi).1
    exact HRes.lt _ w G (h2 i _ G (List.getElem?_eq_getElem hl) hi) b hb
  nd w F h := by obtain ⟨Fs, h1, h2, h3, rfl⟩ := h; exact h3

theorem own_raise {w : World} {lo base : Nat} {e : TypeId} {size n : Nat} {v : Value} {xs : List Value} (h : w.ownsRow base e size v n xs) (hb : ∀ b, v.ownBlock = some b → lo ≤ b) : w.ownsRow lo e size v n xs := by
  refine ⟨h.1, ?_⟩
  rcases h.2 with h | ⟨g, cap, cur, rfl, hg, r⟩
  · exact .inl h
  · exact .inr ⟨g, cap, cur, rfl, hb g rfl, r⟩

section
variable {w W W' : World} {L L' : List HRes}
theorem St.alloc (h : St w W L) (cs : Array Value) (t : TypeId) : St w (W.alloc (.cells cs t)) (L ++ [rBlk W.heap.size t cs]) :=
  h.call ⟨(Below.refl _ _).alloc (Nat.le_refl _) _, [[W.heap.size]], rfl, fun i R F hR hF => by
    match i with
    | 0 =>
      injection hR with hR; injection hF with hF; subst hR hF
      exact ⟨⟨Blk.new W t cs, rfl⟩, by simp⟩
    | i + 1 => simp at hR, by simp⟩
theorem St.set (h : St w W L) (i : Nat) {g : Nat} {t : TypeId} {cs : Array Value} (hi : L[i]? = some (rBlk g t cs)) (j : Nat) (u : Value) : St w (W.setCell ⟨g, j, none⟩ u) (L.set i (rBlk g t (cs.setIfInBounds j u))) :=
  h.mod i hi fun F ⟨h1, h2⟩ _ => ⟨F, ⟨h1.set_ j u, h2⟩, fun b hb => .inl hb, (Only.refl F W).set (by rw [h2]; simp) u⟩
theorem St.blk (h : St w W L) (i : Nat) {g : Nat} {t : TypeId} {cs : Array Value} (hi : L[i]? = some (rBlk g t cs)) : Blk W g t cs := by
  obtain ⟨F, h1, -⟩ := h.get i hi; exact h1.1
theorem St.cells (h : St w W L) (i : Nat) {g : Nat} {t : TypeId} {cs : Array Value} (hi : L[i]? = some (rBlk g t cs)) : ∀ j, W.cell? ⟨g, j, none⟩ = cs[j]? := (h.blk i hi).cell
theorem St.free (h : St w W L) (i : Nat) {g : Nat} {t : TypeId} {cs : Array Value} (hi : L[i]? = some (rBlk g t cs)) : ∀ j, W.frozen? ⟨g, j, none⟩ = false := (h.blk i hi).frozen
theorem St.row (h : St w W L) (i : Nat) {e : TypeId} {size n : Nat} {v : Value} {cells : List Value} (hi : L[i]? = some (rRow e size v n cells)) : W.ownsRow w.heap.size e size v n cells := by
  obtain ⟨F, h1, h2⟩ := h.get i hi; exact own_raise h1.1 fun b hb => h2 b (by rw [h1.2, hb]; simp)
/-- a block of the call's own is not an old one -/
theorem St.new (h : St w W L) (i : Nat) {g : Nat} {t : TypeId} {cs : Array Value} (hi : L[i]? = some (rBlk g t cs)) : w.heap.size ≤ g ∧ g < W.heap.size := by
  obtain ⟨F, h1, h2⟩ := h.get i hi; exact ⟨h2 g (by rw [h1.2]; simp), h1.1.lt⟩
theorem St.apart (h : St w W L) (i j : Nat) (hne : i ≠ j) {g g' : Nat} {t t' : TypeId} {cs cs' : Array Value} (hi : L[i]? = some (rBlk g t cs)) (hj : L[j]? = some (rBlk g' t' cs')) : g ≠ g' := by
  obtain ⟨Fs, kl, ha, hnd⟩ := h.has
  have h1 := (List.getElem?_eq_some_iff.1 hi).1
  have h2 := (List.getElem?_eq_some_iff.1 hj).1
  have f1 : Fs[i]? = some (Fs[i]'(by omega)) := List.getElem?_eq_getElem _
  have f2 : Fs[j]? = some (Fs[j]'(by omega)) := List.getElem?_eq_getElem _
  have e1 := (ha i _ _ hi f1).1.2
  have e2 := (ha j _ _ hj f2).1.2
  rw [e1] at f1
  rw [e2] at f2
  rintro rfl
  exact flat_apart hnd f1 f2 hne g (by simp) (by simp)
/-- an append onto a row of the call's own -/
theorem St.app (h : St w W L) (i : Nat) {e : TypeId} {size n m : Nat} {v v' : Value} {cells cells' : List Value} (hi : L[i]? = some (rRow e size v n cells))
    (hown : W'.ownsRow w.heap.size e size v' m cells') (hg : W.grownBy W' v.ownBlock) (hat : v'.ownBlock = v.ownBlock ∨ v'.ownBlock = some W.heap.size) : St w W' (L.set i (rRow e size v' m cells')) :=
  h.mod i hi fun F ⟨h1, h2⟩ _ => ⟨v'.ownBlock.toList, ⟨own_mono hown (Nat.zero_le _), rfl⟩, fun b hb => by
    rcases hat with e | e
    · left; rw [h2, ← e]; exact hb
    · right; rw [e] at hb; simp at hb; omega, by rw [h2]; exact Only.of_grown hg⟩
theorem St.ints (h : St w W L) (i : Nat) {v : Value} {xs : List Int} (hi : L[i]? = some (rInts v xs)) : ∃ F, OwnI W w.heap.size v xs F := by
  obtain ⟨F, h1, h2⟩ := h.get i hi
  exact ⟨F, own_raise h1.row fun b hb => h2 b (by rw [h1.foot, hb]; simp), h1.wf, h1.foot⟩
theorem St.rdI (h : St w W L) (i : Nat) {v : Value} {xs : List Int} (hi : L[i]? = some (rInts v xs)) : ∃ A c, v = .slice A xs.length c ∧ RdI .i64 W W.heap.size A xs.length c xs := by
  obtain ⟨F, h1⟩ := h.ints i hi; exact h1.rd
theorem St.rdT (h : St w W L) (i : Nat) {v : Value} {t : TaskD} (hi : L[i]? = some (rTask v t)) : RdT W W.heap.size v t := by
  obtain ⟨F, h1, -⟩ := h.get i hi; exact h1.1.rd
theorem St.rdDs (h : St w W L) (i : Nat) {v : Value} {ds : List DeedD} (hi : L[i]? = some (rDeeds v ds)) : ∃ A c, v = .slice A ds.length c ∧ RdDs W W.heap.size A ds.length c ds := by
  obtain ⟨F, ⟨cells, Fs, h1, -⟩, -⟩ := h.get i hi; exact h1.rd
end

/-! ### from the elder words -/
theorem OwnI.low {w : World} {lo lo' : Nat} {v : Value} {xs : List Int} {F : List Nat} (h : OwnI w lo v xs F) (hF : ∀ b ∈ F, lo' ≤ b) : OwnI w lo' v xs F :=
  ⟨own_raise h.row fun b hb => hF b (by rw [h.foot, hb]; simp), h.wf, h.foot⟩
theorem St.of_ints {w W : World} {v : Value} {xs : List Int} {F : List Nat} (h : OwnI W w.heap.size v xs F) (hb : Below w.heap.size w W) : St w W [rInts v xs] :=
  ⟨hb, [F], rfl, fun i R G hR hG => by
    match i with
    | 0 =>
      injection hR with hR; injection hG with hG; subst hR hG
      exact ⟨h.mono (Nat.zero_le _), fun b hb => (h.lt b hb).1⟩
    | i + 1 => simp at hR, by simpa using h.nodup⟩
end Go.Proofs.YtkimgdfcgfhibaaDoor
