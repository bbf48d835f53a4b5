/- Joined texts: Front, Perm. -/
import Derived.Test.YtdbgoekemffimaaJFnOnWay6
import Derived.Test.YtdbgoekemffimaaJFnOnWay4
import Derived.Test.YtdbgoekemffimaaJFnOnWayDeed

/- The list of things with an open tail: things are laid in front and taken away in front; the reader of drawn codes as a thing. -/
namespace Go.Proofs.Ytdbgoekemffimaa
set_option linter.unusedVariables false
open Go.ChangeShapes Go.WideShapes Go.ChangeAt Go.RowKit

section
variable {w W W' : World} {L L' : List HRes} {R R' : HRes}
theorem match_perm {W : World} {L L' : List HRes} (h : L.Perm L') : ∀ Fs : List (List Nat), Fs.length = L.length → (∀ (i : Nat) R F, L[i]? = some R → Fs[i]? = some F → R.at_ W F ∧ ∀ b ∈ F, w.heap.size ≤ b) →
    ∃ Gs : List (List Nat), Gs.Perm Fs ∧ Gs.length = L'.length ∧ ∀ (i : Nat) R F, L'[i]? = some R → Gs[i]? = some F → R.at_ W F ∧ ∀ b ∈ F, w.heap.size ≤ b := by
  induction h with
  | nil => intro Fs h1 h2; exact ⟨Fs, List.Perm.refl _, h1, h2⟩
  | cons x h ih =>
    intro Fs h1 h2
    match Fs, h1 with
    | F :: Fs, h1 =>
      obtain ⟨Gs, g1, g2, g3⟩ := ih Fs (by simpa using h1) fun i R G hR hG => h2 (i + 1) R G (by simpa using hR) (by simpa using hG)
      refine ⟨F :: Gs, g1.cons F, by simpa using g2, fun i R G hR hG => ?_⟩
      match i with
      | 0 => exact h2 0 R G hR hG
      | i + 1 => exact g3 i R G (by simpa using hR) (by simpa using hG)
  | swap x y l =>
    intro Fs h1 h2
    match Fs, h1 with
    | F :: G :: Fs, h1 =>
      refine ⟨G :: F :: Fs, List.Perm.swap .., by simpa using h1, fun i R H hR hH => ?_⟩
      match i with
      | 0 => exact h2 1 R H hR hH
      | 1 => exact h2 0 R H hR hH
      | i + 2 => exact h2 (i + 2) R H hR hH
  | trans _ _ ih1 ih2 =>
    intro Fs h1 h2
    obtain ⟨Gs, g1, g2, g3⟩ := ih1 Fs h1 h2
    obtain ⟨Hs, k1, k2, k3⟩ := ih2 Gs g2 g3
    exact ⟨Hs, k1.trans g1, k2, k3⟩
theorem St.perm (h : St w W L) (p : L.Perm L') : St w W L' := by
  obtain ⟨Fs, h1, h2, h3⟩ := h.has
  obtain ⟨Gs, g1, g2, g3⟩ := match_perm (w := w) p Fs h1 h2
  exact ⟨h.below, Gs, g2, g3, (g1.flatten.nodup_iff).2 h3⟩
theorem St.tl (h : St w W (R :: L)) : St w W L := by
  obtain ⟨Fs, h1, h2, h3⟩ := h.has
  match Fs, h1, h2, h3 with
  | F :: Fs, h1, h2, h3 =>
    refine ⟨h.below, Fs, by simpa using h1, fun i R G hR hG => h2 (i + 1) R G (by simpa using hR) (by simpa using hG), ?_⟩
    rw [List.flatten_cons, List.nodup_append] at h3
    exact h3.2.1
theorem eraseIdx_perm {L : List HRes} : ∀ {i : Nat}, L[i]? = some R → L.Perm (R :: L.eraseIdx i) := by
  induction L with
  | nil => intro i h; simp at h
  | cons x l ih =>
    intro i h
    match i with
    | 0 => simp at h; subst h; exact List.Perm.refl _
    | i + 1 =>
      simp only [List.getElem?_cons_succ] at h
      exact ((ih h).cons x).trans (List.Perm.swap ..)
/-- the thing at i comes to the front -/
theorem St.bring (h : St w W L) (i : Nat) (hi : L[i]? = some R) : St w W (R :: L.eraseIdx i) := h.perm (eraseIdx_perm hi)
/-- the thing at i goes -/
theorem St.rid (h : St w W L) (i : Nat) (hi : L[i]? = some R) : St w W (L.eraseIdx i) := (h.bring i hi).tl
theorem St.swap2 {R₁ R₂ : HRes} (h : St w W (R₁ :: R₂ :: L)) : St w W (R₂ :: R₁ :: L) := h.perm (List.Perm.swap ..)
/-- what a call gives, behind the first thing -/
theorem St.call1 (h : St w W (R :: L)) (k : St W W' [R']) : St w W' (R :: R' :: L) :=
  (h.call k).perm (((List.perm_append_comm (l₁ := R :: L) (l₂ := [R'])).trans (List.Perm.swap ..)))
theorem St.callF (h : St w W L) (k : St W W' [R']) : St w W' (R' :: L) := (h.call k).perm (List.perm_append_comm (l₁ := L) (l₂ := [R']))
theorem St.alloc1 (h : St w W (R :: L)) (cs : Array Value) (t : TypeId) : St w (W.alloc (.cells cs t)) (R :: rBlk W.heap.size t cs :: L) := h.call1 (St.new1 W cs t)
theorem St.allocF (h : St w W L) (cs : Array Value) (t : TypeId) : St w (W.alloc (.cells cs t)) (rBlk W.heap.size t cs :: L) := h.callF (St.new1 W cs t)
theorem Sn.all {M : Nat → Option HRes} (h : Sn w W M) (e : ∀ i, M i = L[i]?) : St w W L :=
  h.to_st (List.range L.length) List.nodup_range (by
    refine List.ext_getElem (by simp) fun i h1 h2 => ?_
    simp only [List.length_map, List.length_range] at h1
    simp only [List.getElem_map, List.getElem_range]
    rw [e i, List.getElem?_eq_getElem h1])
end
/-! ### the reader -/
/-- a reader on block g, over bytes of the world w0, at a position up to hi -/
def rRd (w0 : World) (g hi : Nat) : HRes where
  at_ W F := F = [g] ∧ ∃ p A n c xs, p ≤ hi ∧ n ≤ 2000 ∧ RdI .u8 w0 w0.heap.size A n c xs ∧ Blk W g 97 #[.slice A n c, .int .i64 (p : Nat)]
  keep W W' F h hk := by
    obtain ⟨e, p, A, n, c, xs, h1, h2, h3, h4⟩ := h
    exact ⟨e, p, A, n, c, xs, h1, h2, h3, (hk g (by rw [e]; simp)).trans h4⟩
  lt W F h b hb := by
    obtain ⟨e, p, A, n, c, xs, h1, h2, h3, h4⟩ := h
    rw [e] at hb; simp at hb; subst hb; exact h4.lt
  nd W F h := by rw [h.1]; simp
section
variable {w W W' : World} {L L' : List HRes}
theorem St.more {g hi hi' : Nat} (h : St w W (rRd w g hi :: L)) (hh : hi ≤ hi') : St w W (rRd w g hi' :: L) :=
  h.see fun F ⟨e, p, A, n, c, xs, h1, h2⟩ _ => ⟨e, p, A, n, c, xs, by omega, h2⟩
theorem l20Open_st (A : Option Addr) (n c : Nat) (xs : List Int) (w : World) (h : RdI .u8 w w.heap.size A n c xs) :
    Calls Try.prog 49 #[.slice A n c] w fun e w' => e = .returned (.pointer (some ⟨w.heap.size, 0, none⟩)) ∧ St w w' [rRd w w.heap.size 0] := by
  refine (l20Open_any A n c xs w h).mono fun e w' ⟨he, hb, hr, hs⟩ => ⟨he, hb, [[w.heap.size]], rfl, fun i R F hR hF => ?_, by simp⟩
  match i with
  | 0 =>
    injection hR with hR; injection hF with hF; subst hR hF
    obtain ⟨h1, h2, A', n', c', ys, h3, h4, h5⟩ := hr
    refine ⟨⟨rfl, 0, A', n', c', ys, Nat.le_refl _, h3, ?_, h5⟩, by simp⟩
    exact ⟨h4.len, h4.cap, h4.capMax, h4.wf, fun hp => by
      obtain ⟨b, off, e, hbb, hc⟩ := h4.at_ hp
      exact ⟨b, off, e, hbb, fun i x hx => (bcells hb b _ hbb).symm.trans (hc i x hx)⟩⟩
  | i + 1 => simp at hR
theorem rd_post {g hi : Nat} (S : St w W (rRd w g hi :: L)) {base p q : Nat} (hpq : q ≤ hi + 1) (hg : W.grownBy W' (some g)) {A : Option Addr} {n c : Nat} {xs : List Int} (hn : n ≤ 2000) (hr : RdI .u8 w w.heap.size A n c xs) (hb : Blk W' g 97 #[.slice A n c, .int .i64 (q : Nat)]) : St w W' (rRd w g (hi + 1) :: L) :=
  S.mod 0 rfl fun F ⟨e, _⟩ _ => ⟨F, ⟨e, q, A, n, c, xs, hpq, hn, hr, hb⟩, fun b hb => .inl hb, by rw [e]; exact Only.of_grown hg⟩
theorem pick_rd {g hi : Nat} (S : St w W (rRd w g hi :: L)) (hh : hi ≤ 549755813888) (m : Int) :
    Calls Try.prog 101 #[.pointer (some ⟨g, 0, none⟩), .int .i64 m] W fun e w' => ∃ x, e = .returned (.int .i64 x) ∧ InPick m x ∧ St w w' (rRd w g (hi + 1) :: L) := by
  obtain ⟨F, ⟨hF, p, A, n, c, xs, h1, h2, h3, h4⟩, hlo⟩ := S.get 0 rfl
  have hg : w.heap.size ≤ g := hlo g (by rw [hF]; simp)
  have hR : Rdr W w.heap.size g p := ⟨hg, by omega, A, n, c, xs, h2, h3.below S.below, h4⟩
  refine (pick_any g w.heap.size p m W hR (by omega)).mono fun e w' ⟨⟨x, he, hx⟩, hgr, hr⟩ => ⟨x, he, hx, ?_⟩
  obtain ⟨-, -, A', n', c', ys, k1, k2, k3⟩ := hr
  have hb : Below w.heap.size W w' := (Below.refl _ _).grown hgr S.size (fun k hk => by cases hk; exact hg)
  refine rd_post S (p := p) (base := 0) (q := p + 1) (by omega) hgr k1 ⟨k2.len, k2.cap, k2.capMax, k2.wf, fun hp => ?_⟩ k3
  obtain ⟨b, off, e, hbb, hc⟩ := k2.at_ hp
  exact ⟨b, off, e, hbb, fun i x hx => (bcells (S.below.trans hb) b _ hbb).symm.trans (hc i x hx)⟩
theorem odd_rd {g hi : Nat} (S : St w W (rRd w g hi :: L)) (hh : hi ≤ 549755813888) (m : Int) :
    Calls Try.prog 104 #[.pointer (some ⟨g, 0, none⟩), .int .i64 m] W fun e w' => ∃ b : Bool, e = .returned (.bool b) ∧ St w w' (rRd w g (hi + 1) :: L) := by
  obtain ⟨F, ⟨hF, p, A, n, c, xs, h1, h2, h3, h4⟩, hlo⟩ := S.get 0 rfl
  have hg : w.heap.size ≤ g := hlo g (by rw [hF]; simp)
  have hR : Rdr W w.heap.size g p := ⟨hg, by omega, A, n, c, xs, h2, h3.below S.below, h4⟩
  refine (odd_any g w.heap.size p m W hR (by omega)).mono fun e w' ⟨⟨b, he⟩, hgr, q, hq, hr⟩ => ⟨b, he, ?_⟩
  obtain ⟨-, -, A', n', c', ys, k1, k2, k3⟩ := hr
  have hb : Below w.heap.size W w' := (Below.refl _ _).grown hgr S.size (fun k hk => by cases hk; exact hg)
  refine rd_post S (p := p) (base := 0) (q := q) (by omega) hgr k1 ⟨k2.len, k2.cap, k2.capMax, k2.wf, fun hp => ?_⟩ k3
  obtain ⟨b, off, e, hbb, hc⟩ := k2.at_ hp
  exact ⟨b, off, e, hbb, fun i x hx => (bcells (S.below.trans hb) b _ hbb).symm.trans (hc i x hx)⟩
end
end Go.Proofs.Ytdbgoekemffimaa

/- Plain law: permutations of at most five numbers; a set and a code under them; no program in sight. -/
namespace Go.Proofs.Ytdbgoekemffimaa

def permOk (p : List Int) : Bool := decide (1 ≤ p.length ∧ p.length ≤ 5) && (p.all (fun x => decide (0 ≤ x ∧ x < p.length)) && decide p.Nodup)
theorem permOk_iff (p : List Int) : permOk p = true ↔ (1 ≤ p.length ∧ p.length ≤ 5) ∧ (∀ x ∈ p, 0 ≤ x ∧ x < p.length) ∧ p.Nodup := by
  unfold permOk; simp
theorem permOk_len (p : List Int) (h : ¬ (1 ≤ p.length ∧ p.length ≤ 5)) : permOk p = false := by
  unfold permOk; rw [decide_eq_false h]; rfl
theorem nodup_take {α : Type} {p : List α} (h : p.Nodup) {k : Nat} {x : α} (hx : p[k]? = some x) : x ∉ p.take k := by
  intro hm
  obtain ⟨j, hj⟩ := List.mem_iff_getElem?.1 hm
  rw [List.getElem?_take] at hj
  split at hj
  · next hlt =>
    obtain ⟨h1, h2⟩ := List.getElem?_eq_some_iff.1 hx
    obtain ⟨h3, h4⟩ := List.getElem?_eq_some_iff.1 hj
    have := (List.getElem_inj h).1 (h4.trans h2.symm)
    omega
  · cases hj
theorem nodup_of_take {α : Type} {p : List α} (h : ∀ (k : Nat) x, p[k]? = some x → x ∉ p.take k) : p.Nodup := by
  refine List.pairwise_iff_getElem.2 fun i j hi hj hlt e => h j _ (List.getElem?_eq_getElem hj) ?_
  rw [← e]
  refine List.mem_iff_getElem?.2 ⟨i, ?_⟩
  rw [List.getElem?_take, if_pos hlt, List.getElem?_eq_getElem hi]
theorem permOk_out (p : List Int) (k : Nat) (x : Int) (hx : p[k]? = some x) (h : ¬ (0 ≤ x ∧ x < p.length)) : permOk p = false := by
  rw [Bool.eq_false_iff]
  intro e
  exact h (((permOk_iff p).1 e).2.1 x (List.mem_of_getElem? hx))
theorem permOk_twice (p : List Int) (k : Nat) (x : Int) (hx : p[k]? = some x) (h : x ∈ p.take k) : permOk p = false := by
  rw [Bool.eq_false_iff]
  intro e
  exact nodup_take ((permOk_iff p).1 e).2.2 hx h
theorem permOk_good (p : List Int) (hl : 1 ≤ p.length ∧ p.length ≤ 5) (h : ∀ (k : Nat) x, p[k]? = some x → (0 ≤ x ∧ x < p.length) ∧ x ∉ p.take k) : permOk p = true :=
  (permOk_iff p).2 ⟨hl, fun x hx => by obtain ⟨k, hk⟩ := List.mem_iff_getElem?.1 hx; exact (h k x hk).1, nodup_of_take fun k x hx => (h k x hx).2⟩
theorem permOk_any (p : List Int) (h : ∀ (k : Nat) x, p[k]? = some x → (0 ≤ x ∧ x < p.length) ∧ x ∉ p.take k) : permOk p = decide (1 ≤ p.length ∧ p.length ≤ 5) := by
  by_cases hl : 1 ≤ p.length ∧ p.length ≤ 5
  · rw [permOk_good p hl h, decide_eq_true hl]
  · rw [permOk_len p hl, decide_eq_false hl]

/-- the numbers seen so far -/
def seenP (p : List Int) : Nat → Bool := fun j => decide ((j : Int) ∈ p)
theorem seenP_nil (n : Nat) : mset (seenP []) n = 0 := mset_zero.2 fun k _ => by simp [seenP]
theorem seenP_step (p : List Int) (k m : Nat) (hx : p[k]? = some (m : Int)) (n : Nat) (hm : m < n) : mset (seenP (p.take (k + 1))) n = mset (seenP (p.take k)) n ||| 2 ^ m := by
  rw [mset_or_bit _ _ _ hm]
  refine mset_congr fun j hj => ?_
  obtain ⟨h1, h2⟩ := List.getElem?_eq_some_iff.1 hx
  unfold seenP
  rw [List.take_succ_eq_append_getElem h1, h2, Bool.eq_iff_iff]
  simp only [List.mem_append, List.mem_singleton, decide_eq_true_eq, Bool.or_eq_true]
  constructor
  · rintro (h | h)
    · exact .inl h
    · right; omega
  · rintro (h | h)
    · exact .inl h
    · right; omega

/-- the members of a set under the first m names -/
def nameP (s : Nat) (p : List Int) (m : Nat) : Nat → Bool := fun j => (List.range m).any fun k => bit s k == 1 && p[k]? == some (j : Int)
def setN (p : List Int) (s : Nat) : Nat := mset (nameP s p 5) 5
theorem nameP_zero (s : Nat) (p : List Int) : mset (nameP s p 0) 5 = 0 := mset_zero.2 fun _ _ => rfl
theorem nameP_no (s : Nat) (p : List Int) (m : Nat) (h : bit s m = 0) : mset (nameP s p (m + 1)) 5 = mset (nameP s p m) 5 := mset_congr fun j _ => by
  unfold nameP; rw [List.range_succ, List.any_append]; simp [h]
theorem nameP_yes (s : Nat) (p : List Int) (m x : Nat) (h : bit s m = 1) (hx : p[m]? = some (x : Int)) (h5 : x < 5) : mset (nameP s p (m + 1)) 5 = mset (nameP s p m) 5 ||| 2 ^ x := by
  rw [mset_or_bit _ _ _ h5]
  refine mset_congr fun j _ => ?_
  unfold nameP; rw [List.range_succ, List.any_append, Bool.eq_iff_iff]
  simp [h, hx, Int.ofNat_inj]
theorem mset_add_bit (p : Nat → Bool) (n x : Nat) (h : p x = false) : mset p n + 2 ^ x = mset p n ||| 2 ^ x := by
  have e : mset p n &&& 2 ^ x = 0 := by
    refine Nat.eq_of_testBit_eq fun j => ?_
    rw [Nat.testBit_and, testBit_mset, Nat.testBit_two_pow]
    by_cases hj : x = j
    · subst hj; simp [h]
    · simp [hj]
  have := or_two (mset p n) (2 ^ x)
  omega
theorem nameP_apart (s : Nat) (p : List Int) (m x : Nat) (hp : p.Nodup) (hx : p[m]? = some (x : Int)) : nameP s p m x = false := by
  unfold nameP
  rw [List.any_eq_false]
  intro k hk
  have hk := List.mem_range.1 hk
  have := nodup_take hp hx
  intro h
  simp only [Bool.and_eq_true, beq_iff_eq] at h
  exact this (List.mem_iff_getElem?.2 ⟨k, by rw [List.getElem?_take, if_pos hk, h.2]⟩)
theorem nameP_add (s : Nat) (p : List Int) (m x : Nat) (hp : p.Nodup) (hx : p[m]? = some (x : Int)) (h5 : x < 5) : mset (nameP s p (m + 1)) 5 = mset (nameP s p m) 5 + bit s m * 2 ^ x := by
  have := bit_lt s m
  obtain h | h : bit s m = 0 ∨ bit s m = 1 := by omega
  · rw [nameP_no s p m h, h]; simp
  · rw [nameP_yes s p m x h hx h5, h, Nat.one_mul, mset_add_bit _ _ _ (nameP_apart s p m x hp hx)]
theorem setN_lt (p : List Int) (s : Nat) : setN p s < 32 := mset_lt _ 5

def stepN (p : List Int) (x : Int) : Int := if x < 5 then p.getD x.toNat 0 else x
def codeN (p xs : List Int) : List Int := xs.map (stepN p)
/-- the code whose first k steps are named -/
def midN (p xs : List Int) (k : Nat) : List Int := (xs.take k).map (stepN p) ++ xs.drop k
theorem midN_zero (p xs : List Int) : midN p xs 0 = xs := by simp [midN]
theorem midN_all (p xs : List Int) : midN p xs xs.length = codeN p xs := by simp [midN, codeN]
theorem midN_len (p xs : List Int) (k : Nat) : (midN p xs k).length = xs.length := by simp [midN]; omega
theorem midN_at (p xs : List Int) (k : Nat) : (midN p xs k)[k]? = xs[k]? := by
  unfold midN
  by_cases h : k ≤ xs.length
  · rw [List.getElem?_append_right (by simp; omega)]
    simp [Nat.min_eq_left h]
  · rw [List.getElem?_eq_none (by simp; omega), List.getElem?_eq_none (by omega)]
theorem midN_step (p xs : List Int) (k : Nat) (x : Int) (hx : xs[k]? = some x) : midN p xs (k + 1) = (midN p xs k).set k (stepN p x) := by
  obtain ⟨h1, h2⟩ := List.getElem?_eq_some_iff.1 hx
  unfold midN
  have e : (xs.take k).length = k := by simp; omega
  rw [List.set_append_right _ _ (by simp; omega), List.take_succ_eq_append_getElem h1, h2, List.drop_eq_getElem_cons h1, List.length_map, e, Nat.sub_self, List.set_cons_zero]
  simp
theorem midN_same (p xs : List Int) (k : Nat) (x : Int) (hx : xs[k]? = some x) (h : stepN p x = x) : midN p xs (k + 1) = midN p xs k := by
  rw [midN_step p xs k x hx, h]
  have := midN_at p xs k
  rw [hx] at this
  obtain ⟨h1, h2⟩ := List.getElem?_eq_some_iff.1 this
  conv => lhs; rw [← h2]
  exact List.set_getElem_self h1
theorem codeOk_range (xs : List Int) (h : codeOk xs = true) (k : Nat) (x : Int) (hx : xs[k]? = some x) : 0 ≤ x ∧ x ≤ 9 := by
  obtain ⟨h1, -⟩ := List.getElem?_eq_some_iff.1 hx
  obtain ⟨d, -, -, h2⟩ := codeOk_at xs h k (by omega)
  obtain ⟨d', h3⟩ := h2 x hx
  by_cases e : x < 0 ∨ 9 < x
  · unfold dStep at h3; rw [if_pos e] at h3; cases h3
  · omega

def deedN (p : List Int) (d : DeedD) : DeedD := ⟨codeN p d.need, setN p d.on.toNat, setN p d.off.toNat, setN p d.flip.toNat⟩
def taskNamed (t : TaskD) (p : List Int) : TaskD := if taskOk t = true ∧ permOk p = true ∧ p.length = 5 then ⟨setN p t.start.toNat, codeN p t.goal, t.deeds.map (deedN p)⟩ else ⟨0, [], []⟩
end Go.Proofs.Ytdbgoekemffimaa
