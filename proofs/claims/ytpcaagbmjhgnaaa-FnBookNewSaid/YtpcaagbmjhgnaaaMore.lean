/- Rows of numbers that grow: append to a thing of the list. -/
import Derived.Test.YtpcaagbmjhgnaaaPush
namespace Go.Proofs.Ytpcaagbmjhgnaaa
set_option linter.unusedVariables false
open Go.ChangeShapes Go.WideShapes Go.ChangeAt Go.RowKit
/-- a fact that no tactic looks into (contradiction looks into Hid) -/
structure Bx (p : Prop) : Prop where
  out : p
theorem St.appI {w W W' : World} {L : List HRes} (h : St w W L) (i : Nat) {v v' : Value} {xs ys : List Int} {n : Nat} (hi : L[i]? = some (rInts v xs)) (hn : n = xs.length + ys.length) (hown : W'.ownsRow 0 3 1 v' n (Go.Proofs.Ytpcaagbmjhgnaaa.ints xs ++ Go.Proofs.Ytpcaagbmjhgnaaa.ints ys)) (hwf : ∀ y ∈ ys, (Lit.int .i64 y).wf = true)
    (hg : W.grownBy W' v.ownBlock) (hat : v'.ownBlock = v.ownBlock ∨ v'.ownBlock = some W.heap.size) : St w W' (L.set i (rInts v' (xs ++ ys))) :=
  h.mod i hi fun F h1 _ => ⟨v'.ownBlock.toList, ⟨by subst hn; rw [List.length_append, ints_append]; exact hown, fun x hx => (List.mem_append.1 hx).elim (h1.wf x) (hwf x), rfl⟩, fun b hb => by
    rcases hat with e | e
    · left; rw [h1.foot, ← e]; exact hb
    · right; rw [e] at hb; simp at hb; omega, by rw [h1.foot]; exact Only.of_grown hg⟩
theorem St.ownI {w W : World} {L : List HRes} (h : St w W L) (i : Nat) {v : Value} {xs : List Int} (hi : L[i]? = some (rInts v xs)) : W.ownsRow 0 3 1 v xs.length (Go.Proofs.Ytpcaagbmjhgnaaa.ints xs) := by
  obtain ⟨F, h1⟩ := h.ints i hi
  exact own_mono h1.row (Nat.zero_le _)
theorem drop2_st {w W : World} {R : HRes} {L : List HRes} {M : Nat → Option HRes} (h : Sn w W M) (h0 : M 0 = some R) (h2 : ∀ i, M (i + 2) = L[i]?) : St w W (R :: L) :=
  h.to_st (0 :: List.range' 2 L.length) (by
    rw [List.nodup_cons]
    exact ⟨fun hm => by have := List.mem_range'_1.1 hm; omega, List.nodup_range'⟩) (by
    simp only [List.map_cons, h0, List.cons.injEq, true_and]
    refine List.ext_getElem (by simp) fun i h1 h3 => ?_
    simp only [List.length_map, List.length_range'] at h1
    simp only [List.getElem_map, List.getElem_range', Nat.one_mul]
    rw [Nat.add_comm, h2 i, List.getElem?_eq_getElem h1])
theorem St.pushD {w W W' : World} {L : List HRes} {v v' nv : Value} {ds : List DeedD} {d : DeedD} {n : Nat} (h : St w W (rDeeds v ds :: rInts nv d.need :: L))
    (hs : d.need.length ≤ 1048576) (hwf : (Lit.int .i64 d.on).wf = true ∧ (Lit.int .i64 d.off).wf = true ∧ (Lit.int .i64 d.flip).wf = true) (hsm : ds.length + 1 ≤ 1048576) (hn : n = ds.length + 1)
    {cells : List Value} (hrow : W.ownsRow 0 74 4 v ds.length cells) (hown : W'.ownsRow 0 74 4 v' n (cells ++ [nv, .int .i64 d.on, .int .i64 d.off, .int .i64 d.flip])) (hg : W.grownBy W' v.ownBlock) (hat : v'.ownBlock = v.ownBlock ∨ v'.ownBlock = some W.heap.size) : St w W' (rDeeds v' (ds ++ [d]) :: L) :=
  drop2_st ((Sn.of_st h).push 0 1 (by decide) rfl rfl hs hwf hsm hn hrow hown hg hat) rfl fun i => rfl
theorem St.rowD {w W : World} {L : List HRes} (h : St w W L) (i : Nat) {v : Value} {ds : List DeedD} (hi : L[i]? = some (rDeeds v ds)) : ∃ cells, W.ownsRow 0 74 4 v ds.length cells := by
  obtain ⟨F, h1, -⟩ := h.get i hi; exact OwnDs.ownRow h1
end Go.Proofs.Ytpcaagbmjhgnaaa
