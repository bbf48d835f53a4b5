/- The list of things with an open tail: things are laid in front and taken away in front; the reader of drawn codes as a thing. -/
import Derived.Test.YtfgebdioffeliaaSBack
import Derived.Test.YtfgebdioffeliaaSActs
namespace Go.Proofs.Ytfgebdioffeliaa
set_option linter.unusedVariables false
set_option linter.unusedSimpArgs false
open Go.ChangeShapes Go.WideShapes Go.ChangeAt Go.RowKit

section
variable {w W W' : World} {L L' : List HRes} {R R' : HRes}
theorem match_perm {W : World} {L L' : List HRes} (h : L.Perm L') : ∀ Fs : List (List Nat), Fs.length = L.length → (∀ (i : Nat) R F, L[i]? = some R → Fs[i]? = some F → R.at_ W F ∧ ∀ b ∈ F, w.heap.size ≤ b) →
    ∃ Gs : List (List Nat), Gs.Perm Fs ∧ Gs.length = L'.length ∧ ∀ (i : Nat) R F, L'[i]? = some R → Gs[i]? = some F → R.at_ W F ∧ ∀ b ∈ F, w.heap.size ≤ b := by
  induction h with
  | nil => intro Fs h1 h2; exact ⟨Fs, List.Perm.refl _, h1, h2⟩
  | cons x h ih =>
    intro Fs h1 h2
    match Fs, h1 with
    | F :: Fs, h1 =>
      obtain ⟨Gs, g1, g2, g3⟩ := ih Fs (by simpa using h1) fun i R G hR hG => h2 (i + 1) R G (by simpa using hR) (by simpa using hG)
      refine ⟨F :: Gs, g1.cons F, by simpa using g2, fun i R G hR hG => ?_⟩
      match i with
      | 0 => exact h2 0 R G hR hG
      | i + 1 => exact g3 i R G (by simpa using hR) (by simpa using hG)
  | swap x y l =>
    intro Fs h1 h2
    match Fs, h1 with
    | F :: G :: Fs, h1 =>
      refine ⟨G :: F :: Fs, List.Perm.swap .., by simpa using h1, fun i R H hR hH => ?_⟩
      match i with
      | 0 => exact h2 1 R H hR hH
      | 1 => exact h2 0 R H hR hH
      | i + 2 => exact h2 (i + 2) R H hR hH
  | trans _ _ ih1 ih2 =>
    intro Fs h1 h2
    obtain ⟨Gs, g1, g2, g3⟩ := ih1 Fs h1 h2
    obtain ⟨Hs, k1, k2, k3⟩ := ih2 Gs g2 g3
    exact ⟨Hs, k1.trans g1, k2, k3⟩
theorem St.perm (h : St w W L) (p : L.Perm L') : St w W L' := by
  obtain ⟨Fs, h1, h2, h3⟩ := h.has
  obtain ⟨Gs, g1, g2, g3⟩ := match_perm (w := w) p Fs h1 h2
  exact ⟨h.below, Gs, g2, g3, (g1.flatten.nodup_iff).2 h3⟩
theorem St.tl (h : St w W (R :: L)) : St w W L := by
  obtain ⟨Fs, h1, h2, h3⟩ := h.has
  match Fs, h1, h2, h3 with
  | F :: Fs, h1, h2, h3 =>
    refine ⟨h.below, Fs, by simpa using h1, fun i R G hR hG => h2 (i + 1) R G (by simpa using hR) (by simpa using hG), ?_⟩
    rw [List.flatten_cons, List.nodup_append] at h3
    exact h3.2.1
theorem eraseIdx_perm {L : List HRes} : ∀ {i : Nat}, L[i]? = some R → L.Perm (R :: L.eraseIdx i) := by
  induction L with
  | nil => intro i h; simp at h
  | cons x l ih =>
    intro i h
    match i with
    | 0 => simp at h; subst h; exact List.Perm.refl _
    | i + 1 =>
      simp only [List.getElem?_cons_succ] at h
      exact ((ih h).cons x).trans (List.Perm.swap ..)
/-- the thing at i comes to the front -/
theorem St.bring (h : St w W L) (i : Nat) (hi : L[i]? = some R) : St w W (R :: L.eraseIdx i) := h.perm (eraseIdx_perm hi)
/-- what a call gives, behind the first thing -/
theorem St.call1 (h : St w W (R :: L)) (k : St W W' [R']) : St w W' (R :: R' :: L) :=
  (h.call k).perm (((List.perm_append_comm (l₁ := R :: L) (l₂ := [R'])).trans (List.Perm.swap ..)))
theorem St.callF (h : St w W L) (k : St W W' [R']) : St w W' (R' :: L) := (h.call k).perm (List.perm_append_comm (l₁ := L) (l₂ := [R']))
theorem St.alloc1 (h : St w W (R :: L)) (cs : Array Value) (t : TypeId) : St w (W.alloc (.cells cs t)) (R :: rBlk W.heap.size t cs :: L) := h.call1 (St.new1 W cs t)
theorem St.allocF (h : St w W L) (cs : Array Value) (t : TypeId) : St w (W.alloc (.cells cs t)) (rBlk W.heap.size t cs :: L) := h.callF (St.new1 W cs t)
theorem Sn.all {M : Nat → Option HRes} (h : Sn w W M) (e : ∀ i, M i = L[i]?) : St w W L :=
  h.to_st (List.range L.length) List.nodup_range (by
    refine List.ext_getElem (by simp) fun i h1 h2 => ?_
    simp only [List.length_map, List.length_range] at h1
    simp only [List.getElem_map, List.getElem_range]
    rw [e i, List.getElem?_eq_getElem h1])
end
/-! ### the reader -/
/-- a reader on block g, over bytes of the world w0, at a position up to hi -/
def rRd (w0 : World) (g hi : Nat) : HRes where
  at_ W F := F = [g] ∧ ∃ p A n c xs, p ≤ hi ∧ n ≤ 2000 ∧ RdI .u8 w0 w0.heap.size A n c xs ∧ Blk W g 72 #[.slice A n c, .int .i64 (p : Nat)]
  keep W W' F h hk := by
    obtain ⟨e, p, A, n, c, xs, h1, h2, h3, h4⟩ := h
    exact ⟨e, p, A, n, c, xs, h1, h2, h3, (hk g (by rw [e]; simp)).trans h4⟩
  lt W F h b hb := by
    obtain ⟨e, p, A, n, c, xs, h1, h2, h3, h4⟩ := h
    rw [e] at hb; simp at hb; subst hb; exact h4.lt
  nd W F h := by rw [h.1]; simp
section
variable {w W W' : World} {L L' : List HRes}
theorem St.more {g hi hi' : Nat} (h : St w W (rRd w g hi :: L)) (hh : hi ≤ hi') : St w W (rRd w g hi' :: L) :=
  h.see fun F ⟨e, p, A, n, c, xs, h1, h2⟩ _ => ⟨e, p, A, n, c, xs, by omega, h2⟩
theorem rd_post {g hi : Nat} (S : St w W (rRd w g hi :: L)) {base p q : Nat} (hpq : q ≤ hi + 1) (hg : W.grownBy W' (some g)) {A : Option Addr} {n c : Nat} {xs : List Int} (hn : n ≤ 2000) (hr : RdI .u8 w w.heap.size A n c xs) (hb : Blk W' g 72 #[.slice A n c, .int .i64 (q : Nat)]) : St w W' (rRd w g (hi + 1) :: L) :=
  S.mod 0 rfl fun F ⟨e, _⟩ _ => ⟨F, ⟨e, q, A, n, c, xs, hpq, hn, hr, hb⟩, fun b hb => .inl hb, by rw [e]; exact Only.of_grown hg⟩
theorem pick_rd {g hi : Nat} (S : St w W (rRd w g hi :: L)) (hh : hi ≤ 549755813888) (m : Int) :
    Calls Try.prog 46 #[.pointer (some ⟨g, 0, none⟩), .int .i64 m] W fun e w' => ∃ x, e = .returned (.int .i64 x) ∧ InPick m x ∧ St w w' (rRd w g (hi + 1) :: L) := by
  obtain ⟨F, ⟨hF, p, A, n, c, xs, h1, h2, h3, h4⟩, hlo⟩ := S.get 0 rfl
  have hg : w.heap.size ≤ g := hlo g (by rw [hF]; simp)
  have hR : Rdr W w.heap.size g p := ⟨hg, by omega, A, n, c, xs, h2, h3.below S.below, h4⟩
  refine (pick_any g w.heap.size p m W hR (by omega)).mono fun e w' ⟨⟨x, he, hx⟩, hgr, hr⟩ => ⟨x, he, hx, ?_⟩
  obtain ⟨-, -, A', n', c', ys, k1, k2, k3⟩ := hr
  have hb : Below w.heap.size W w' := (Below.refl _ _).grown hgr S.size (fun k hk => by cases hk; exact hg)
  refine rd_post S (p := p) (base := 0) (q := p + 1) (by omega) hgr k1 ⟨k2.len, k2.cap, k2.capMax, k2.wf, fun hp => ?_⟩ k3
  obtain ⟨b, off, e, hbb, hc⟩ := k2.at_ hp
  exact ⟨b, off, e, hbb, fun i x hx => (bcells (S.below.trans hb) b _ hbb).symm.trans (hc i x hx)⟩
theorem odd_rd {g hi : Nat} (S : St w W (rRd w g hi :: L)) (hh : hi ≤ 549755813888) (m : Int) :
    Calls Try.prog 58 #[.pointer (some ⟨g, 0, none⟩), .int .i64 m] W fun e w' => ∃ b : Bool, e = .returned (.bool b) ∧ St w w' (rRd w g (hi + 1) :: L) := by
  obtain ⟨F, ⟨hF, p, A, n, c, xs, h1, h2, h3, h4⟩, hlo⟩ := S.get 0 rfl
  have hg : w.heap.size ≤ g := hlo g (by rw [hF]; simp)
  have hR : Rdr W w.heap.size g p := ⟨hg, by omega, A, n, c, xs, h2, h3.below S.below, h4⟩
  refine (odd_any g w.heap.size p m W hR (by omega)).mono fun e w' ⟨⟨b, he⟩, hgr, q, hq, hr⟩ => ⟨b, he, ?_⟩
  obtain ⟨-, -, A', n', c', ys, k1, k2, k3⟩ := hr
  have hb : Below w.heap.size W w' := (Below.refl _ _).grown hgr S.size (fun k hk => by cases hk; exact hg)
  refine rd_post S (p := p) (base := 0) (q := q) (by omega) hgr k1 ⟨k2.len, k2.cap, k2.capMax, k2.wf, fun hp => ?_⟩ k3
  obtain ⟨b, off, e, hbb, hc⟩ := k2.at_ hp
  exact ⟨b, off, e, hbb, fun i x hx => (bcells (S.below.trans hb) b _ hbb).symm.trans (hc i x hx)⟩
end
end Go.Proofs.Ytfgebdioffeliaa
