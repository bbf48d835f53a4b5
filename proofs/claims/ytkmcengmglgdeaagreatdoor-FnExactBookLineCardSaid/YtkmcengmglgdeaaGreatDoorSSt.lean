/- Joined texts: St, Plan, Sets. -/
import Derived.Test.YtkmcengmglgdeaaGreatDoorSDeed
import Derived.Test.YtkmcengmglgdeaaGreatDoorSSz
import Derived.Test.YtkmcengmglgdeaaGreatDoorSNum

namespace Go.Proofs.YtkmcengmglgdeaaGreatDoor
set_option linter.unusedVariables false
set_option linter.unusedSimpArgs false
set_option maxRecDepth 100000
set_option maxHeartbeats 8000000
open Go.ChangeShapes Go.WideShapes Go.ChangeAt Go.RowKit
structure HRes where
 at_ : World → List Nat → Prop
 keep : ∀ (w w' : World) (F : List Nat), at_ w F → (∀ b ∈ F, w'.heap[b]? = w.heap[b]?) → at_ w' F
 lt : ∀ (w : World) (F : List Nat), at_ w F → ∀ b ∈ F, b < w.heap.size
 nd : ∀ (w : World) (F : List Nat), at_ w F → F.Nodup
structure St (w W : World) (L : List HRes) : Prop where
 below : Below w.heap.size w W
 has : ∃ Fs : List (List Nat), Fs.length = L.length ∧ (∀ (i : Nat) R F, L[i]? = some R → Fs[i]? = some F → R.at_ W F ∧ ∀ b ∈ F, w.heap.size ≤ b) ∧ Fs.flatten.Nodup
theorem flat_apart {Fs : List (List Nat)} (h : Fs.flatten.Nodup) {i j : Nat} {F G : List Nat} (hi : Fs[i]? = some F) (hj : Fs[j]? = some G) (hne : i ≠ j) : ∀ b ∈ F, b ∉ G := by
 intro b hb hg; have hi2 := (List.getElem?_eq_some_iff.1 hi).1; have hj2 := (List.getElem?_eq_some_iff.1 hj).1; have hp := List.pairwise_iff_getElem.1 (List.pairwise_flatten.1 h).2
 rcases Nat.lt_or_gt_of_ne hne with h1 | h1
 ·exact hp i j hi2 hj2 h1 b (by rw [(List.getElem?_eq_some_iff.1 hi).2]; exact hb) b (by rw [(List.getElem?_eq_some_iff.1 hj).2]; exact hg) rfl
 ·exact hp j i hj2 hi2 h1 b (by rw [(List.getElem?_eq_some_iff.1 hj).2]; exact hg) b (by rw [(List.getElem?_eq_some_iff.1 hi).2]; exact hb) rfl
theorem flat_nodup {Fs : List (List Nat)} (h1 : ∀ (i : Nat) F, Fs[i]? = some F → F.Nodup) (h2 : ∀ (i j : Nat) F G, i ≠ j → Fs[i]? = some F → Fs[j]? = some G → ∀ b ∈ F, b ∉ G) : Fs.flatten.Nodup := by
 refine List.pairwise_flatten.2 ⟨fun F hF => ?_, List.pairwise_iff_getElem.2 fun i j hi hj hlt a ha b hb e => ?_⟩
 ·obtain ⟨i, hi⟩ := List.mem_iff_getElem?.1 hF; exact h1 i F hi
 ·subst e; exact h2 i j _ _ (by omega) (List.getElem?_eq_getElem hi) (List.getElem?_eq_getElem hj) a ha hb
section
variable {w W W' : World} {L L' : List HRes}
theorem St.refl (w : World) : St w w [] := ⟨Below.refl _ _, [], rfl, by simp, by simp⟩
theorem St.size (h : St w W L) : w.heap.size ≤ W.heap.size := h.below.size
theorem St.get (h : St w W L) (i : Nat) {R : HRes} (hi : L[i]? = some R) : ∃ F, R.at_ W F ∧ ∀ b ∈ F, w.heap.size ≤ b := by
 obtain ⟨Fs, hl, ha, -⟩ := h.has; have h1 := (List.getElem?_eq_some_iff.1 hi).1; exact ⟨_, ha i R _ hi (List.getElem?_eq_getElem (show i < Fs.length by omega))⟩
theorem St.call (h : St w W L) (k : St W W' L') : St w W' (L ++ L') := by
 obtain ⟨Fs, hl, ha, hn⟩ := h.has; obtain ⟨Gs, kl, ka, kn⟩ := k.has
 have hold : ∀ (i : Nat) F, Fs[i]? = some F → ∃ R, L[i]? = some R ∧ R.at_ W F ∧ ∀ b ∈ F, w.heap.size ≤ b := fun i F hF => by
  have hi : i < L.length := by rw [← hl]; exact (List.getElem?_eq_some_iff.1 hF).1
  exact ⟨_, List.getElem?_eq_getElem hi, ha i _ F (List.getElem?_eq_getElem hi) hF⟩
 have hnew : ∀ (i : Nat) F, Gs[i]? = some F → ∃ R, L'[i]? = some R ∧ R.at_ W' F ∧ ∀ b ∈ F, W.heap.size ≤ b := fun i F hF => by
  have hi : i < L'.length := by rw [← kl]; exact (List.getElem?_eq_some_iff.1 hF).1
  exact ⟨_, List.getElem?_eq_getElem hi, ka i _ F (List.getElem?_eq_getElem hi) hF⟩
 refine ⟨h.below.trans (k.below.mono h.size), Fs ++ Gs, by simp [hl, kl], fun i R F hR hF => ?_, ?_⟩
 ·rcases Nat.lt_or_ge i L.length with hi | hi
  ·rw [List.getElem?_append_left hi] at hR; rw [List.getElem?_append_left (by omega)] at hF; obtain ⟨h1, h2⟩ := ha i R F hR hF; exact ⟨R.keep W W' F h1 fun b hb => k.below.block b (R.lt W F h1 b hb), h2⟩
  ·rw [List.getElem?_append_right hi] at hR; rw [List.getElem?_append_right (by omega), hl] at hF; obtain ⟨h1, h2⟩ := ka _ R F hR hF; exact ⟨h1, fun b hb => Nat.le_trans h.size (h2 b hb)⟩
 ·rw [List.flatten_append, List.nodup_append]; refine ⟨hn, kn, fun a hA b hB e => ?_⟩; subst e; obtain ⟨F, hF, hA⟩ := List.mem_flatten.1 hA; obtain ⟨G, hG, hB⟩ := List.mem_flatten.1 hB; obtain ⟨i, hi⟩ := List.mem_iff_getElem?.1 hF; obtain ⟨j, hj⟩ := List.mem_iff_getElem?.1 hG; obtain ⟨R, -, h1, -⟩ := hold i F hi; obtain ⟨R', -, -, h2⟩ := hnew j G hj
  have := R.lt W F h1 a hA
  have := h2 a hB
  omega
theorem St.quiet (h : St w W L) (k : Below W.heap.size W W') : St w W' L := by
 have := h.call (L' := []) ⟨k, [], rfl, by simp, by simp⟩
 simpa using this
theorem St.of_below (k : Below w.heap.size w W) : St w W [] := (St.refl w).quiet k
theorem St.mod (h : St w W L) (i : Nat) {R R' : HRes} (hi : L[i]? = some R) (k : ∀ F, R.at_ W F → (∀ b ∈ F, w.heap.size ≤ b) → ∃ F', R'.at_ W' F' ∧ (∀ b ∈ F', b ∈ F ∨ W.heap.size ≤ b) ∧ Only F W W') : St w W' (L.set i R') := by
 obtain ⟨Fs, hl, ha, hn⟩ := h.has; have hiL := (List.getElem?_eq_some_iff.1 hi).1; have hiF : Fs[i]? = some (Fs[i]'(by omega)) := List.getElem?_eq_getElem _
 generalize Fs[i]'(by omega) = F at hiF
 obtain ⟨h1, h2⟩ := ha i R F hi hiF; obtain ⟨F', k1, k2, k3⟩ := k F h1 h2; have hw := h.size
 have hat : ∀ (j : Nat) G, j ≠ i → Fs[j]? = some G → ∃ S, L[j]? = some S ∧ S.at_ W G ∧ (∀ b ∈ G, w.heap.size ≤ b) ∧ (∀ b ∈ G, b ∉ F) ∧ ∀ b ∈ G, b < W.heap.size := fun j G hj hG => by
  have hjl : j < L.length := by rw [← hl]; exact (List.getElem?_eq_some_iff.1 hG).1
  obtain ⟨q1, q2⟩ := ha j _ G (List.getElem?_eq_getElem hjl) hG; exact ⟨_, List.getElem?_eq_getElem hjl, q1, q2, flat_apart hn hG hiF hj, HRes.lt _ W G q1⟩
 refine ⟨h.below.trans (k3.below h2 hw), Fs.set i F', by simp [hl], fun j S G hS hG => ?_, flat_nodup (fun j G hG => ?_) (fun j l G H hne hG hH => ?_)⟩
 ·by_cases hj : j = i
  ·subst hj; rw [List.getElem?_set_self (by omega)] at hS hG
   injection hS with hS
   injection hG with hG
   subst hS hG; exact ⟨k1, fun b hb => (k2 b hb).elim (h2 b) (fun hx => by omega)⟩
  ·rw [List.getElem?_set_ne (by omega)] at hS hG; obtain ⟨S', e, q1, q2, q3, q4⟩ := hat j G hj hG; rw [hS] at e
   injection e with e
   subst e; exact ⟨S.keep W W' G q1 fun b hb => k3.block b (q4 b hb) (q3 b hb), q2⟩
 ·by_cases hj : j = i
  ·subst hj; rw [List.getElem?_set_self (by omega)] at hG
   injection hG with hG
   subst hG; exact R'.nd W' _ k1
  ·rw [List.getElem?_set_ne (by omega)] at hG; obtain ⟨S', e, q1, -⟩ := hat j G hj hG; exact S'.nd W _ q1
 ·have key : ∀ (j : Nat) G, j ≠ i → (Fs.set i F')[j]? = some G → ∀ b ∈ G, b ∉ F' := fun j G hj hG b hb hf => by
   rw [List.getElem?_set_ne (by omega)] at hG; obtain ⟨S', e, q1, q2, q3, q4⟩ := hat j G hj hG
   rcases k2 b hf with hx | hx
   ·exact q3 b hb hx
   ·have := q4 b hb; omega
  have hself : ∀ G, (Fs.set i F')[i]? = some G → G = F' := fun G hG => by
   rw [List.getElem?_set_self (by omega)] at hG
   injection hG with hG; exact hG.symm
  by_cases hj : j = i
  ·subst hj
   have := hself G hG
   subst this; intro b hb hb'; exact key l H (by omega) hH b hb' hb
  ·by_cases hl' : l = i
   ·subst hl'
    have := hself H hH
    subst this; exact key j G hj hG
   ·rw [List.getElem?_set_ne (by omega)] at hG hH; exact flat_apart hn hG hH hne
theorem St.pick (h : St w W L) (ix : List Nat) (hn : ix.Nodup) (hl' : (ix.all fun i => decide (i < L.length)) = true) {L' : List HRes} (e : ix.filterMap (fun i => L[i]?) = L') : St w W L' := by
 have hl : ∀ i ∈ ix, i < L.length := by simpa using hl'
 subst e; obtain ⟨Fs, kl, ha, hnd⟩ := h.has
 have hmap : ∀ (T : Type) (l : List T) (hh : l.length = L.length), ix.filterMap (fun i => l[i]?) = ix.attach.map (fun i => l[i.1]'(by have := hl i.1 i.2; omega)) := fun T l hh => by
  conv => lhs; rw [← List.attach_map_subtype_val ix]
  rw [List.filterMap_map]; rw [← List.filterMap_eq_map]
  congr 1
  funext i
  simp only [Function.comp]; exact List.getElem?_eq_getElem (by have := hl i.1 i.2; omega)
 have hL := hmap _ L rfl; have hF := hmap _ Fs kl
 have hsrc : ∀ (T : Type) (l : List T), l.length = L.length → ∀ (i : Nat) R, (ix.filterMap (fun i => l[i]?))[i]? = some R → ∃ j, ix[i]? = some j ∧ l[j]? = some R := fun T l hh i R hR => by
  rw [hmap T l hh, List.getElem?_map] at hR; obtain ⟨j, hj, hR⟩ := Option.map_eq_some_iff.1 hR
  have hj' : ix[i]? = some j.1 := by
   have := congrArg (Option.map Subtype.val) hj
   rw [← List.getElem?_map, List.attach_map_subtype_val] at this; exact this
  exact ⟨j.1, hj', by rw [← hR]; exact List.getElem?_eq_getElem _⟩
 refine ⟨h.below, ix.filterMap (fun i => Fs[i]?), by rw [hL, hF]; simp, fun i R F hR hF => ?_, flat_nodup (fun i F hF => ?_) (fun i j F G hne hF hG => ?_)⟩
 ·obtain ⟨j, q1, q2⟩ := hsrc _ L rfl i R hR; obtain ⟨j', q3, q4⟩ := hsrc _ Fs kl i F hF; rw [q1] at q3
  injection q3 with q3
  subst q3; exact ha j R F q2 q4
 ·obtain ⟨j', q3, q4⟩ := hsrc _ Fs kl i F hF; have hj : j' < L.length := by rw [← kl]; exact (List.getElem?_eq_some_iff.1 q4).1
  exact HRes.nd _ W F (ha j' _ F (List.getElem?_eq_getElem hj) q4).1
 ·obtain ⟨j1, q3, q4⟩ := hsrc _ Fs kl i F hF; obtain ⟨j2, q5, q6⟩ := hsrc _ Fs kl j G hG; refine flat_apart hnd q4 q6 fun e => hne ?_
  subst e; obtain ⟨a1, a2⟩ := List.getElem?_eq_some_iff.1 q3; obtain ⟨b1, b2⟩ := List.getElem?_eq_some_iff.1 q5; exact (List.getElem_inj (hn)).1 (a2.trans b2.symm)
theorem St.join {R₁ R₂ : HRes} (h : St w W (R₁ :: R₂ :: L)) {R : HRes} (k : ∀ F G, R₁.at_ W F → R₂.at_ W G → (F ++ G).Nodup → (∀ b ∈ F ++ G, w.heap.size ≤ b) → R.at_ W (F ++ G)) : St w W (R :: L) := by
 obtain ⟨Fs, kl, ha, hnd⟩ := h.has
 match Fs, kl, ha, hnd with
 | F :: G :: Fs, kl, ha, hnd =>
  obtain ⟨a1, a2⟩ := ha 0 _ F rfl rfl; obtain ⟨b1, b2⟩ := ha 1 _ G rfl rfl; have hnd' : ((F ++ G) ++ Fs.flatten).Nodup := by simpa using hnd
  have hlo : ∀ b ∈ F ++ G, w.heap.size ≤ b := fun b hb => (List.mem_append.1 hb).elim (a2 b) (b2 b)
  refine ⟨h.below, (F ++ G) :: Fs, by simpa using kl, fun i R' F' hR hF => ?_, by simpa using hnd⟩
  match i with
  | 0 =>
   injection hR with hR
   injection hF with hF
   subst hR hF; exact ⟨k F G a1 b1 (List.nodup_append.1 hnd').1 hlo, hlo⟩
  | i + 1 => exact ha (i + 2) R' F' hR hF
theorem St.see {R₁ : HRes} (h : St w W (R₁ :: L)) {R : HRes} (k : ∀ F, R₁.at_ W F → (∀ b ∈ F, w.heap.size ≤ b) → R.at_ W F) : St w W (R :: L) := by
 obtain ⟨Fs, kl, ha, hnd⟩ := h.has; refine ⟨h.below, Fs, by simpa using kl, fun i R' F' hR hF => ?_, hnd⟩
 match i with
 | 0 =>
  injection hR with hR
  subst hR; obtain ⟨a1, a2⟩ := ha 0 _ F' rfl hF; exact ⟨k F' a1 a2, a2⟩
 | i + 1 => exact ha (i + 1) R' F' hR hF
end
def rBlk (g : Nat) (t : TypeId) (cs : Array Value) : HRes where
 at_ w F := Blk w g t cs ∧ F = [g]
 keep w w' F h hk := ⟨(hk g (by rw [h.2]; simp)).trans h.1, h.2⟩
 lt w F h b hb := by obtain ⟨h1, rfl⟩ := h; simp at hb; subst hb; exact h1.lt
 nd w F h := by obtain ⟨h1, rfl⟩ := h; simp
def rRow (e : TypeId) (size : Nat) (v : Value) (n : Nat) (cells : List Value) : HRes where
 at_ w F := w.ownsRow 0 e size v n cells ∧ F = v.ownBlock.toList
 keep w w' F h hk := ⟨ownsRow_heap h.1 fun b hb => hk b (by rw [h.2, hb]; simp), h.2⟩
 lt w F h b hb := by obtain ⟨h1, rfl⟩ := h; exact (h1.lt b (by simpa using hb)).2
 nd w F h := by obtain ⟨h1, rfl⟩ := h; cases v.ownBlock <;> simp
def rInts (v : Value) (xs : List Int) : HRes where
 at_ w F := OwnI w 0 v xs F
 keep w w' F h hk := h.keep hk
 lt w F h b hb := (h.lt b hb).2
 nd w F h := h.nodup
def rDeeds (v : Value) (ds : List DeedD) : HRes where
 at_ w F := ∃ cells Fs, OwnDs w 0 v ds F cells Fs ∧ F.Nodup
 keep w w' F h hk := by obtain ⟨c, Fs, h1, h2⟩ := h; exact ⟨c, Fs, h1.keep hk, h2⟩
 lt w F h b hb := by obtain ⟨c, Fs, h1, h2⟩ := h; exact (h1.lt b hb).2
 nd w F h := by obtain ⟨c, Fs, h1, h2⟩ := h; exact h2
def rTask (v : Value) (t : TaskD) : HRes where
 at_ w F := OwnT w 0 v t F ∧ F.Nodup
 keep w w' F h hk := ⟨h.1.keep hk, h.2⟩
 lt w F h b hb := (h.1.lt b hb).2
 nd w F h := h.2
def rAll (Rs : List HRes) : HRes where
 at_ w F := ∃ Fs : List (List Nat), Fs.length = Rs.length ∧ (∀ (i : Nat) R G, Rs[i]? = some R → Fs[i]? = some G → R.at_ w G) ∧ Fs.flatten.Nodup ∧ F = Fs.flatten
 keep w w' F h hk := by
  obtain ⟨Fs, h1, h2, h3, rfl⟩ := h; exact ⟨Fs, h1, fun i R G hR hG => R.keep w w' G (h2 i R G hR hG) fun b hb => hk b (mem_flat hG hb), h3, rfl⟩
 lt w F h b hb := by
  obtain ⟨Fs, h1, h2, h3, rfl⟩ := h; obtain ⟨G, hG, hb⟩ := List.mem_flatten.1 hb; obtain ⟨i, hi⟩ := List.mem_iff_getElem?.1 hG; have hl : i < Rs.length := by rw [← h1]; exact (List.getElem?_eq_some_iff.1 hi).1
  exact HRes.lt _ w G (h2 i _ G (List.getElem?_eq_getElem hl) hi) b hb
 nd w F h := by obtain ⟨Fs, h1, h2, h3, rfl⟩ := h; exact h3
theorem own_raise {w : World} {lo base : Nat} {e : TypeId} {size n : Nat} {v : Value} {xs : List Value} (h : w.ownsRow base e size v n xs) (hb : ∀ b, v.ownBlock = some b → lo ≤ b) : w.ownsRow lo e size v n xs := by
 refine ⟨h.1, ?_⟩
 rcases h.2 with h | ⟨g, cap, cur, rfl, hg, r⟩
 ·exact .inl h
 ·exact .inr ⟨g, cap, cur, rfl, hb g rfl, r⟩
section
variable {w W W' : World} {L L' : List HRes}
theorem St.alloc (h : St w W L) (cs : Array Value) (t : TypeId) : St w (W.alloc (.cells cs t)) (L ++ [rBlk W.heap.size t cs]) :=
 h.call ⟨(Below.refl _ _).alloc (Nat.le_refl _) _, [[W.heap.size]], rfl, fun i R F hR hF => by
  match i with
  | 0 =>
   injection hR with hR; injection hF with hF; subst hR hF
   exact ⟨⟨Blk.new W t cs, rfl⟩, by simp⟩
  | i + 1 => simp at hR, by simp⟩
theorem St.set (h : St w W L) (i : Nat) {g : Nat} {t : TypeId} {cs : Array Value} (hi : L[i]? = some (rBlk g t cs)) (j : Nat) (u : Value) : St w (W.setCell ⟨g, j, none⟩ u) (L.set i (rBlk g t (cs.setIfInBounds j u))) :=
 h.mod i hi fun F ⟨h1, h2⟩ _ => ⟨F, ⟨h1.set_ j u, h2⟩, fun b hb => .inl hb, (Only.refl F W).set (by rw [h2]; simp) u⟩
theorem St.blk (h : St w W L) (i : Nat) {g : Nat} {t : TypeId} {cs : Array Value} (hi : L[i]? = some (rBlk g t cs)) : Blk W g t cs := by
 obtain ⟨F, h1, -⟩ := h.get i hi; exact h1.1
theorem St.cells (h : St w W L) (i : Nat) {g : Nat} {t : TypeId} {cs : Array Value} (hi : L[i]? = some (rBlk g t cs)) : ∀ j, W.cell? ⟨g, j, none⟩ = cs[j]? := (h.blk i hi).cell
theorem St.free (h : St w W L) (i : Nat) {g : Nat} {t : TypeId} {cs : Array Value} (hi : L[i]? = some (rBlk g t cs)) : ∀ j, W.frozen? ⟨g, j, none⟩ = false := (h.blk i hi).frozen
theorem St.row (h : St w W L) (i : Nat) {e : TypeId} {size n : Nat} {v : Value} {cells : List Value} (hi : L[i]? = some (rRow e size v n cells)) : W.ownsRow w.heap.size e size v n cells := by
 obtain ⟨F, h1, h2⟩ := h.get i hi; exact own_raise h1.1 fun b hb => h2 b (by rw [h1.2, hb]; simp)
theorem St.new (h : St w W L) (i : Nat) {g : Nat} {t : TypeId} {cs : Array Value} (hi : L[i]? = some (rBlk g t cs)) : w.heap.size ≤ g ∧ g < W.heap.size := by
 obtain ⟨F, h1, h2⟩ := h.get i hi; exact ⟨h2 g (by rw [h1.2]; simp), h1.1.lt⟩
theorem St.app (h : St w W L) (i : Nat) {e : TypeId} {size n m : Nat} {v v' : Value} {cells cells' : List Value} (hi : L[i]? = some (rRow e size v n cells))
  (hown : W'.ownsRow w.heap.size e size v' m cells') (hg : W.grownBy W' v.ownBlock) (hat : v'.ownBlock = v.ownBlock ∨ v'.ownBlock = some W.heap.size) : St w W' (L.set i (rRow e size v' m cells')) :=
 h.mod i hi fun F ⟨h1, h2⟩ _ => ⟨v'.ownBlock.toList, ⟨own_mono hown (Nat.zero_le _), rfl⟩, fun b hb => by
  rcases hat with e | e
  ·left; rw [h2, ← e]; exact hb
  ·right; rw [e] at hb; simp at hb; omega, by rw [h2]; exact Only.of_grown hg⟩
theorem St.ints (h : St w W L) (i : Nat) {v : Value} {xs : List Int} (hi : L[i]? = some (rInts v xs)) : ∃ F, OwnI W w.heap.size v xs F := by
 obtain ⟨F, h1, h2⟩ := h.get i hi; exact ⟨F, own_raise h1.row fun b hb => h2 b (by rw [h1.foot, hb]; simp), h1.wf, h1.foot⟩
theorem St.rdI (h : St w W L) (i : Nat) {v : Value} {xs : List Int} (hi : L[i]? = some (rInts v xs)) : ∃ A c, v = .slice A xs.length c ∧ RdI .i64 W W.heap.size A xs.length c xs := by
 obtain ⟨F, h1⟩ := h.ints i hi; exact h1.rd
theorem St.rdDs (h : St w W L) (i : Nat) {v : Value} {ds : List DeedD} (hi : L[i]? = some (rDeeds v ds)) : ∃ A c, v = .slice A ds.length c ∧ RdDs W W.heap.size A ds.length c ds := by
 obtain ⟨F, ⟨cells, Fs, h1, -⟩, -⟩ := h.get i hi; exact h1.rd
end
theorem St.of_ints {w W : World} {v : Value} {xs : List Int} {F : List Nat} (h : OwnI W w.heap.size v xs F) (hb : Below w.heap.size w W) : St w W [rInts v xs] :=
 ⟨hb, [F], rfl, fun i R G hR hG => by
  match i with
  | 0 =>
   injection hR with hR; injection hG with hG; subst hR hG
   exact ⟨h.mono (Nat.zero_le _), fun b hb => (h.lt b hb).1⟩
  | i + 1 => simp at hR, by simpa using h.nodup⟩
theorem St.of_task {w W : World} {v : Value} {t : TaskD} {F : List Nat} (h : OwnT W w.heap.size v t F) (hn : F.Nodup) (hb : Below w.heap.size w W) : St w W [rTask v t] :=
 ⟨hb, [F], rfl, fun i R G hR hG => by
  match i with
  | 0 =>
   injection hR with hR; injection hG with hG; subst hR hG
   exact ⟨⟨h.mono (Nat.zero_le _), hn⟩, fun b hb => (h.lt b hb).1⟩
  | i + 1 => simp at hR, by simpa using hn⟩
def opt : Option Nat → Int
 | some s => s
 | none => -1
theorem opt_nonneg {o : Option Nat} : 0 ≤ opt o ↔ ∃ s, o = some s := by cases o <;> simp [opt]
def behind (d : DeedD) (s : Nat) : Nat := ((s ||| d.on.toNat) - ((s ||| d.on.toNat) &&& d.off.toNat)) ^^^ d.flip.toNat
def deedDo (d : DeedD) (s : Nat) : Option Nat := if evalCode d.need s then some (behind d s) else none
def stepP (t : TaskD) (s : Nat) (k : Int) : Option Nat := if 0 ≤ k ∧ k < t.deeds.length then (t.deeds[k.toNat]?).bind (deedDo · s) else none
def runP (t : TaskD) : Nat → List Int → Option Nat
 | s, [] => some s
 | s, k :: ks => (stepP t s k).bind fun s' => runP t s' ks
def planRun (t : TaskD) (s : Int) (p : List Int) : Int := if taskOk t = true ∧ stIn s = true ∧ p.length ≤ 40 then opt (runP t s.toNat p) else -1
theorem runP_append (t : TaskD) (s : Nat) (p q : List Int) : runP t s (p ++ q) = (runP t s p).bind fun s' => runP t s' q := by
 induction p generalizing s with
 | nil => rfl
 | cons k p ih =>
  simp only [List.cons_append, runP]
  cases stepP t s k with
  | none => rfl
  | some s' => simp [ih]
theorem runP_step (t : TaskD) (s : Nat) (p : List Int) (k : Nat) (x : Int) (hx : p[k]? = some x) (s' : Nat) (h : runP t s (p.take k) = some s') : runP t s (p.take (k + 1)) = stepP t s' x := by
 obtain ⟨h1, h2⟩ := List.getElem?_eq_some_iff.1 hx; rw [List.take_succ_eq_append_getElem h1, h2, runP_append, h]; simp only [Option.bind_some, runP]
 cases stepP t s' x <;> rfl
theorem runP_bad (t : TaskD) (s : Nat) (p : List Int) (k : Nat) (x : Int) (hx : p[k]? = some x) (s' : Nat) (h : runP t s (p.take k) = some s') (hs : stepP t s' x = none) : runP t s p = none := by
 obtain ⟨h1, h2⟩ := List.getElem?_eq_some_iff.1 hx
 conv => lhs; rw [← List.take_append_drop k p]
 rw [runP_append, h, List.drop_eq_getElem_cons h1, h2]
 simp [runP, hs]
theorem or_lt32 {a b : Nat} (h : a < 32) (h' : b < 32) : a ||| b < 32 := Nat.or_lt_two_pow (n := 5) h h'
theorem deedOk_parts (d : DeedD) (h : deedOk d = true) : codeOk d.need = true ∧ (0 ≤ d.on ∧ d.on < 32) ∧ (0 ≤ d.off ∧ d.off < 32) ∧ (0 ≤ d.flip ∧ d.flip < 32) ∧ d.on.toNat &&& d.off.toNat = 0 ∧ d.on.toNat &&& d.flip.toNat = 0 ∧ d.off.toNat &&& d.flip.toNat = 0 := by
 unfold deedOk apart3 at h
 simp only [Bool.and_eq_true, decide_eq_true_eq] at h; obtain ⟨⟨⟨⟨h1, h2⟩, h3⟩, h4⟩, ⟨h5, h6⟩, h7⟩ := h; exact ⟨h1, (stIn_iff _).1 h2, (stIn_iff _).1 h3, (stIn_iff _).1 h4, h5, h6, h7⟩
theorem taskOk_parts (t : TaskD) (h : taskOk t = true) : (0 ≤ t.start ∧ t.start < 32) ∧ codeOk t.goal = true ∧ t.deeds.length ≤ 6 ∧ ∀ d ∈ t.deeds, deedOk d = true := by
 unfold taskOk at h
 simp only [Bool.and_eq_true, decide_eq_true_eq, List.all_eq_true] at h; exact ⟨(stIn_iff _).1 h.1.1.1, h.1.1.2, h.1.2, h.2⟩
theorem behind_lt (d : DeedD) (s : Nat) (h : deedOk d = true) (hs : s < 32) : behind d s < 32 := by
 obtain ⟨-, h1, h2, h3, -⟩ := deedOk_parts d h; exact xor32 _ _ (Nat.lt_of_le_of_lt (Nat.sub_le _ _) (or_lt32 hs (by omega))) (by omega)
theorem deedDo_lt (d : DeedD) (s s' : Nat) (h : deedOk d = true) (hs : s < 32) (e : deedDo d s = some s') : s' < 32 := by
 unfold deedDo at e
 split at e
 ·injection e with e; subst e; exact behind_lt d s h hs
 ·cases e
theorem stepP_lt (t : TaskD) (s : Nat) (k : Int) (s' : Nat) (h : taskOk t = true) (hs : s < 32) (e : stepP t s k = some s') : s' < 32 := by
 unfold stepP at e
 split at e
 ·obtain ⟨d, hd, e⟩ := Option.bind_eq_some_iff.1 e; exact deedDo_lt d s s' ((taskOk_parts t h).2.2.2 d (List.mem_of_getElem? hd)) hs e
 ·cases e
theorem runP_lt (t : TaskD) (s : Nat) (p : List Int) (s' : Nat) (h : taskOk t = true) (hs : s < 32) (e : runP t s p = some s') : s' < 32 := by
 induction p generalizing s with
 | nil => simp only [runP, Option.some.injEq] at e; omega
 | cons k p ih =>
  simp only [runP] at e; obtain ⟨s1, h1, e⟩ := Option.bind_eq_some_iff.1 e; exact ih s1 (stepP_lt t s k s1 h hs h1) e
theorem behind_impl (d : DeedD) (s : Nat) (hs : s < 32) (h : deedOk d = true) :
  bits .xor .i64 (bits .andNot .i64 (bits .or .i64 (s : Int) d.on) d.off) d.flip = (behind d s : Nat) := by
 obtain ⟨-, h1, h2, h3, -⟩ := deedOk_parts d h; have e1 := toNat_cast h1.1; have e2 := toNat_cast h2.1; have e3 := toNat_cast h3.1; have ho : s ||| d.on.toNat < 32 := or_lt32 hs (by omega)
 rw [← e1, ← e2, ← e3, i64_or_nat _ _ (by omega) (by omega), i64_andNot_nat _ _ (by omega) (by omega), i64_xor_nat _ _ (by omega) (by omega)]
 simp [behind]
theorem behind_spec (d : DeedD) (s : Nat) (h : deedOk d = true) : behind d s = ((s ||| d.on.toNat) - (s &&& d.off.toNat)) ^^^ d.flip.toNat := by
 obtain ⟨-, h1, h2, h3, h4, -⟩ := deedOk_parts d h
 unfold behind
 rw [Nat.and_or_distrib_right, h4, Nat.or_zero]
def mset (p : Nat → Bool) : Nat → Nat
 | 0 => 0
 | n + 1 => 2 ^ n * (p n).toNat + mset p n
theorem mset_lt (p : Nat → Bool) (n : Nat) : mset p n < 2 ^ n := by
 induction n with
 | zero => simp [mset]
 | succ n ih => simp only [mset, Nat.pow_succ]; cases p n <;> simp <;> omega
theorem testBit_mset (p : Nat → Bool) (n k : Nat) : (mset p n).testBit k = (decide (k < n) && p k) := by
 induction n with
 | zero => simp [mset]
 | succ n ih =>
  simp only [mset]; rw [Nat.testBit_two_pow_mul_add _ (mset_lt p n)]
  by_cases h : k < n
  ·rw [if_pos h, ih]; simp [h, show k < n + 1 by omega]
  ·rw [if_neg h]
   by_cases e : k = n
   ·subst e; cases p k <;> simp
   ·rw [show decide (k < n + 1) = false from decide_eq_false (by omega)]; obtain ⟨j, hj⟩ : ∃ j, k - n = j + 1 := ⟨k - n - 1, by omega⟩; rw [hj]
    cases p n <;> simp [Nat.testBit_succ]
theorem testBit_bit (a j : Nat) : a.testBit j = (bit a j == 1) := by
 unfold bit; rw [Nat.testBit_eq_decide_div_mod_eq]; rfl
theorem bit_mset1 (p : Nat → Bool) {n k : Nat} (h : k < n) : (bit (mset p n) k == 1) = p k := by rw [← testBit_bit, testBit_mset]; simp [h]
theorem mset_congr {p q : Nat → Bool} {n : Nat} (h : ∀ k, k < n → p k = q k) : mset p n = mset q n := by
 refine Nat.eq_of_testBit_eq fun k => ?_
 rw [testBit_mset, testBit_mset]
 by_cases hk : k < n
 ·rw [h k hk]
 ·simp [hk]
theorem mset_inj {p q : Nat → Bool} {n : Nat} (h : mset p n = mset q n) : ∀ k, k < n → p k = q k := fun k hk => by
 rw [← bit_mset1 p hk, ← bit_mset1 q hk, h]
theorem testBit_high {a n k : Nat} (h : a < 2 ^ n) (hk : ¬ k < n) : a.testBit k = false := Nat.testBit_lt_two_pow (Nat.lt_of_lt_of_le h (Nat.pow_le_pow_right (by omega) (by omega)))
theorem mset_bits (a n : Nat) (h : a < 2 ^ n) : mset (fun k => bit a k == 1) n = a := by
 refine Nat.eq_of_testBit_eq fun k => ?_
 rw [testBit_mset, ← testBit_bit]
 by_cases hk : k < n
 ·simp [hk]
 ·rw [testBit_high h hk]; simp
theorem mset_or_bit (p : Nat → Bool) (n k : Nat) (hk : k < n) : mset p n ||| 2 ^ k = mset (fun j => p j || decide (k = j)) n := by
 refine Nat.eq_of_testBit_eq fun j => ?_
 rw [Nat.testBit_or, testBit_mset, testBit_mset, Nat.testBit_two_pow]
 by_cases e : k = j
 ·subst e; simp [hk]
 ·simp [e]
theorem mset_or (p q : Nat → Bool) (n : Nat) : mset p n ||| mset q n = mset (fun j => p j || q j) n := by
 refine Nat.eq_of_testBit_eq fun j => ?_
 rw [Nat.testBit_or, testBit_mset, testBit_mset, testBit_mset, Bool.and_or_distrib_left]
theorem mset_and (p q : Nat → Bool) (n : Nat) : mset p n &&& mset q n = mset (fun j => p j && q j) n := by
 refine Nat.eq_of_testBit_eq fun j => ?_
 rw [Nat.testBit_and, testBit_mset, testBit_mset, testBit_mset]
 cases decide (j < n) <;> simp
theorem mset_diff (p q : Nat → Bool) (n : Nat) : mset p n - (mset p n &&& mset q n) = mset (fun j => p j && !q j) n := by
 rw [mset_and]
 have h1 : ∀ m, mset (fun j => p j && q j) m + mset (fun j => p j && !q j) m = mset p m := fun m => by
  induction m with
  | zero => rfl
  | succ m ihm => simp only [mset]; rw [← ihm]; cases p m <;> cases q m <;> simp <;> omega
 have := h1 n
 omega
theorem mset_zero {p : Nat → Bool} {n : Nat} : mset p n = 0 ↔ ∀ k, k < n → p k = false := by
 constructor
 ·intro h k hk
  have := testBit_mset p n k
  rw [h] at this
  simpa [hk] using this.symm
 ·intro h; refine Nat.eq_of_testBit_eq fun j => ?_
  rw [testBit_mset]
  by_cases hj : j < n
  ·rw [h j hj]; simp
  ·simp [hj]
def upto (p : Nat → Bool) (m : Nat) : Nat → Bool := fun k => decide (k < m) && p k
theorem mset_upto0 (p : Nat → Bool) (n : Nat) : mset (upto p 0) n = 0 := mset_zero.2 fun k _ => by simp [upto]
theorem mset_uptoN (p : Nat → Bool) (n : Nat) : mset (upto p n) n = mset p n := mset_congr fun k hk => by simp [upto, hk]
theorem mset_upto_yes (p : Nat → Bool) (n m : Nat) (hm : m < n) (h : p m = true) : mset (upto p (m + 1)) n = mset (upto p m) n ||| 2 ^ m := by
 rw [mset_or_bit _ _ _ hm]; refine mset_congr fun k hk => ?_
 unfold upto
 by_cases e : m = k
 ·subst e; simp [h]
 ·simp [e, show (k < m + 1) ↔ (k < m) by omega]
theorem mset_upto_no (p : Nat → Bool) (n m : Nat) (h : p m = false) : mset (upto p (m + 1)) n = mset (upto p m) n := by
 refine mset_congr fun k hk => ?_
 unfold upto
 by_cases e : k = m
 ·subst e; simp [h]
 ·simp [show (k < m + 1) ↔ (k < m) by omega]
theorem mset_upto_bit (p : Nat → Bool) (n m : Nat) (hm : m ≤ n) : mset (upto p m) n < 2 ^ m := by
 refine Nat.lt_pow_two_of_testBit _ fun j hj => ?_
 rw [testBit_mset]
 unfold upto
 simp [show ¬ j < m by omega]
theorem mset_upto_add (p : Nat → Bool) (n m : Nat) (hm : m < n) (h : p m = true) : mset (upto p (m + 1)) n = mset (upto p m) n + 2 ^ m := by
 rw [mset_upto_yes p n m hm h]
 have := Nat.two_pow_add_eq_or_of_lt (mset_upto_bit p n m (by omega)) 1
 rw [Nat.or_comm, Nat.add_comm]
 simpa using this.symm
end Go.Proofs.YtkmcengmglgdeaaGreatDoor
